/- Part 4 of the walks and words that WO uses. No conditions of its own. -/
import Derived.Test.YtkgmoajdcibafaaDoorMWO3

-- written by a program of this session's (wip/pp)
namespace Go.Proofs.YtkgmoajdcibafaaDoor.P
open Go.RowKit Go.Proofs.YtkgmoajdcibafaaDoorW.PrintWords Go.Proofs.YtkgmoajdcibafaaDoorW.PrintLast Go.Proofs.YtkgmoajdcibafaaDoorW.PrintMore
attribute [local go_sem] max2_int min2_int max_two min_two max_three min_three max_four min_four str_geq str_gtr str_leq   -- for this text's walks alone
set_option linter.unusedVariables false
set_option linter.unusedSimpArgs false

/-! ### cmp_Compare_int: function 106 -/
def cmp_Compare_int.f (a0 : Int) (a1 : Int) : Option (Int) := (cmp_isNaN_int.f a0).bind fun t101 => ((cmp_isNaN_int.f a1).bind fun t102 => (if t101 = true then (if t102 = true then (some 0) else (some (-1))) else (if t102 = true then (some 1) else (if a0 < a1 then (some (-1)) else (if a0 > a1 then (some 1) else (some 0))))))
set_option maxHeartbeats 8000000 in
set_option maxRecDepth 100000 in
theorem cmp_Compare_int.calls (a0 : Int) (a1 : Int) (r : Int) (w : World) (h : cmp_Compare_int.f a0 a1 = some r) :
 Calls Tryd.prog 106 #[.int .i64 a0, .int .i64 a1] w fun e w' => e = .returned (.int .i64 r) ∧ Drawn0 w w' := by
 have H : ((cmp_isNaN_int.f a0).bind fun t101 => ((cmp_isNaN_int.f a1).bind fun t102 => (if t101 = true then (if t102 = true then (some 0) else (some (-1))) else (if t102 = true then (some 1) else (if a0 < a1 then (some (-1)) else (if a0 > a1 then (some 1) else (some 0))))))) = some r := h
 clear h
 obtain ⟨t101, A3, H⟩ := bS H; try dsimp only at H
 obtain ⟨t102, A4, H⟩ := bS H; try dsimp only at H
 by_cases c5 : t101 = true
 · subst c5
   rw [if_pos rfl] at H
   by_cases c6 : t102 = true
   · subst c6
     rw [if_pos rfl] at H
     obtain rfl := Option.some.inj H
     go_enter Tryd.func106, Tryd.ntmps106
     go_wp2_with (first | ((with_reducible refine gate_callee (f := 116) rfl ?_); refine gL 8 Tryd.func116 #[.int .i64 a0] ?_; (with_reducible refine (cmp_isNaN_int.calls a0 true _ A3.out).mono ?_); rintro e w' ⟨rfl, ⟨nd, rfl⟩⟩; refine ⟨_, rfl, ?_⟩) | ((with_reducible refine gate_callee (f := 116) rfl ?_); refine gL 10 Tryd.func116 #[.int .i64 a1] ?_; (with_reducible refine (cmp_isNaN_int.calls a1 true _ A4.out).mono ?_); rintro e w' ⟨rfl, ⟨nd, rfl⟩⟩; refine ⟨_, rfl, ?_⟩))
     go_ret
     exact ⟨z4458, za9de⟩
   · replace c6 := Bool.eq_false_iff.mpr c6
     subst c6
     rw [if_neg (show ¬ (false = true) by decide)] at H
     obtain rfl := Option.some.inj H
     go_enter Tryd.func106, Tryd.ntmps106
     go_wp2_with (first | ((with_reducible refine gate_callee (f := 116) rfl ?_); refine gL 8 Tryd.func116 #[.int .i64 a0] ?_; (with_reducible refine (cmp_isNaN_int.calls a0 true _ A3.out).mono ?_); rintro e w' ⟨rfl, ⟨nd, rfl⟩⟩; refine ⟨_, rfl, ?_⟩) | ((with_reducible refine gate_callee (f := 116) rfl ?_); refine gL 10 Tryd.func116 #[.int .i64 a1] ?_; (with_reducible refine (cmp_isNaN_int.calls a1 false _ A4.out).mono ?_); rintro e w' ⟨rfl, ⟨nd, rfl⟩⟩; refine ⟨_, rfl, ?_⟩))
     go_ret
     exact ⟨z4458, za9de⟩
 · replace c5 := Bool.eq_false_iff.mpr c5
   subst c5
   rw [if_neg (show ¬ (false = true) by decide)] at H
   by_cases c7 : t102 = true
   · subst c7
     rw [if_pos rfl] at H
     obtain rfl := Option.some.inj H
     go_enter Tryd.func106, Tryd.ntmps106
     go_wp2_with (first | ((with_reducible refine gate_callee (f := 116) rfl ?_); refine gL 8 Tryd.func116 #[.int .i64 a0] ?_; (with_reducible refine (cmp_isNaN_int.calls a0 false _ A3.out).mono ?_); rintro e w' ⟨rfl, ⟨nd, rfl⟩⟩; refine ⟨_, rfl, ?_⟩) | ((with_reducible refine gate_callee (f := 116) rfl ?_); refine gL 10 Tryd.func116 #[.int .i64 a1] ?_; (with_reducible refine (cmp_isNaN_int.calls a1 true _ A4.out).mono ?_); rintro e w' ⟨rfl, ⟨nd, rfl⟩⟩; refine ⟨_, rfl, ?_⟩))
     go_ret
     exact ⟨z4458, za9de⟩
   · replace c7 := Bool.eq_false_iff.mpr c7
     subst c7
     rw [if_neg (show ¬ (false = true) by decide)] at H
     by_cases c8 : a0 < a1
     · rw [if_pos c8] at H
       have c8b0 := dL c8
       clear c8
       obtain rfl := Option.some.inj H
       go_enter Tryd.func106, Tryd.ntmps106
       go_wp2_with (first | ((with_reducible refine gate_callee (f := 116) rfl ?_); refine gL 8 Tryd.func116 #[.int .i64 a0] ?_; (with_reducible refine (cmp_isNaN_int.calls a0 false _ A3.out).mono ?_); rintro e w' ⟨rfl, ⟨nd, rfl⟩⟩; refine ⟨_, rfl, ?_⟩) | ((with_reducible refine gate_callee (f := 116) rfl ?_); refine gL 10 Tryd.func116 #[.int .i64 a1] ?_; (with_reducible refine (cmp_isNaN_int.calls a1 false _ A4.out).mono ?_); rintro e w' ⟨rfl, ⟨nd, rfl⟩⟩; refine ⟨_, rfl, ?_⟩))
       go_ret
       exact ⟨z4458, za9de⟩
     · rw [if_neg c8] at H
       have c8b0 := nL c8
       clear c8
       by_cases c9 : a0 > a1
       · rw [if_pos c9] at H
         have c9b0 := dL c9
         clear c9
         obtain rfl := Option.some.inj H
         go_enter Tryd.func106, Tryd.ntmps106
         go_wp2_with (first | ((with_reducible refine gate_callee (f := 116) rfl ?_); refine gL 8 Tryd.func116 #[.int .i64 a0] ?_; (with_reducible refine (cmp_isNaN_int.calls a0 false _ A3.out).mono ?_); rintro e w' ⟨rfl, ⟨nd, rfl⟩⟩; refine ⟨_, rfl, ?_⟩) | ((with_reducible refine gate_callee (f := 116) rfl ?_); refine gL 10 Tryd.func116 #[.int .i64 a1] ?_; (with_reducible refine (cmp_isNaN_int.calls a1 false _ A4.out).mono ?_); rintro e w' ⟨rfl, ⟨nd, rfl⟩⟩; refine ⟨_, rfl, ?_⟩))
         go_ret
         exact ⟨z4458, za9de⟩
       · rw [if_neg c9] at H
         have c9b0 := nL c9
         clear c9
         obtain rfl := Option.some.inj H
         go_enter Tryd.func106, Tryd.ntmps106
         go_wp2_with (first | ((with_reducible refine gate_callee (f := 116) rfl ?_); refine gL 8 Tryd.func116 #[.int .i64 a0] ?_; (with_reducible refine (cmp_isNaN_int.calls a0 false _ A3.out).mono ?_); rintro e w' ⟨rfl, ⟨nd, rfl⟩⟩; refine ⟨_, rfl, ?_⟩) | ((with_reducible refine gate_callee (f := 116) rfl ?_); refine gL 10 Tryd.func116 #[.int .i64 a1] ?_; (with_reducible refine (cmp_isNaN_int.calls a1 false _ A4.out).mono ?_); rintro e w' ⟨rfl, ⟨nd, rfl⟩⟩; refine ⟨_, rfl, ?_⟩))
         go_ret
         exact ⟨z4458, za9de⟩

end Go.Proofs.YtkgmoajdcibafaaDoor.P

-- written by a program of this session's (wip/pp)
namespace Go.Proofs.YtkgmoajdcibafaaDoor.P
open Go.RowKit Go.Proofs.YtkgmoajdcibafaaDoorW.PrintWords Go.Proofs.YtkgmoajdcibafaaDoorW.PrintLast Go.Proofs.YtkgmoajdcibafaaDoorW.PrintMore
attribute [local go_sem] max2_int min2_int max_two min_two max_three min_three max_four min_four str_geq str_gtr str_leq   -- for this text's walks alone
set_option linter.unusedVariables false
set_option linter.unusedSimpArgs false

/-! ### impl_CompareKeys_1: function 103 -/
def impl_CompareKeys_1.f (k : Nat) (a0_0 : ByteArray) (a0_1 : ByteArray) (a1_0 : ByteArray) (a1_1 : ByteArray) : Option (Int) := (cmp_Compare_string.f a0_0 a1_0).bind fun t103 => ((cmp_Compare_string.f a0_1 a1_1).bind fun t104 => ((cmp_Or_int.f k (([t103, t104] : List Int))).bind fun t108 => (some t108)))
theorem impl_CompareKeys_1.mono : ∀ a0 a1 a2 a3 k, LeO (impl_CompareKeys_1.f k a0 a1 a2 a3) (impl_CompareKeys_1.f (k + 1) a0 a1 a2 a3) := by
 intro a0 a1 a2 a3 k
 have m0 := @cmp_Or_int.mono
 unfold impl_CompareKeys_1.f
 exact moZ
def impl_CompareKeys_1.T1 : Bool × List (List Nat × List Nat) := (true, [([], []), ([0], [0]), ([], []), ([2], [2]), ([1, 3], [1, 3]), ([], []), ([5], [5]), ([], []), ([7], [7]), ([6, 8, 4], [6, 8]), ([4, 9], [4, 9]), ([10, 9], [10]), ([11, 11, 0, 1, 2, 3, 4, 5, 6, 7, 8, 9, 10, 11], [11])])
def impl_CompareKeys_1.B1 : List Nat := [0, 1, 0, 4, 15, 0, 32, 0, 128, 511, 1023, 2047, 4095]
theorem impl_CompareKeys_1.tab1 : rtab .any (opsOf Tryd.f103 1) = impl_CompareKeys_1.T1 := by kernel_rfl
theorem impl_CompareKeys_1.bits1 : waitsOk impl_CompareKeys_1.T1.2 impl_CompareKeys_1.B1 = true := by kernel_rfl
set_option maxHeartbeats 8000000 in
set_option maxRecDepth 100000 in
theorem impl_CompareKeys_1.calls (k : Nat) (a0_0 : ByteArray) (a0_1 : ByteArray) (a1_0 : ByteArray) (a1_1 : ByteArray) (r : Int) (w : World) (h : impl_CompareKeys_1.f k a0_0 a0_1 a1_0 a1_1 = some r) :
 Calls Tryd.prog 103 #[.agg #[.string a0_0, .string a0_1], .agg #[.string a1_0, .string a1_1]] w fun e w' => e = .returned (.int .i64 r) ∧ Below w.heap.size w w' := by
 have hu123 := Tryd.underlying123
 have HB := aM (Below.refl w.heap.size w)
 have H : ((cmp_Compare_string.f a0_0 a1_0).bind fun t103 => ((cmp_Compare_string.f a0_1 a1_1).bind fun t104 => ((cmp_Or_int.f k (([t103, t104] : List Int))).bind fun t108 => (some t108)))) = some r := h
 clear h
 obtain ⟨t103, A3, H⟩ := bS H; try dsimp only at H
 obtain ⟨t104, A4, H⟩ := bS H; try dsimp only at H
 obtain ⟨y105, hy105⟩ : ∃ y_ : List Int, y_ = (([t103, t104] : List Int)) := ⟨_, rfl⟩
 first | (replace H := bindS H; rw [← hy105] at H; try dsimp only at H) | rw [← hy105] at H
 have Ny105 := aM hy105
 clear hy105
 obtain ⟨t108, A5, H⟩ := bS H; try dsimp only at H
 obtain rfl := Option.some.inj H
 go_enter Tryd.func103, Tryd.ntmps103
 try go_wp2_with (first | ((with_reducible refine gate_dst (N := 2) rfl ?_); refine bX 2 123 #[.string a0_0, .string a0_1] ?_; intro gb101 hg w6 hbox hb; have _ := aM (below_step hbZ hb); have _ := aM hbox; have _ := szZ hg; have _ := szZ hg; clear HB; rename_i HB BK101 GW101 GE101; clear hb hbox hg) | ((with_reducible refine gate_dst (N := 3) rfl ?_); refine bX 3 123 #[.string a1_0, .string a1_1] ?_; intro gb102 hg w7 hbox hb; have _ := bB gb101 hb; have _ := aM (below_step hbZ hb); have _ := aM hbox; have _ := szZ hg; have _ := szZ hg; have ⟨_, _⟩ := nbB gb101 hg; clear BK101 HB; rename_i BK101 HB BK102 GW102 GE102 NB101_102 NB102_101; clear hb hbox hg))
 have _ := aM (blk_drew BK101.out)
 have _ := aM (blk_drew BK102.out)
 have _ := aM (below_drew1 HB.out)
 clear BK101
 clear BK102
 clear HB
 rename_i BK101 BK102 HB
 refine sA 13 impl_CompareKeys_1.tab1 impl_CompareKeys_1.bits1 (fun w' => w'.cell? ⟨gb101, 0, none⟩ = some (.string a0_0) ∧ w'.cell? ⟨gb101, 1, none⟩ = some (.string a0_1) ∧ w'.cell? ⟨gb102, 0, none⟩ = some (.string a1_0) ∧ w'.cell? ⟨gb102, 1, none⟩ = some (.string a1_1)) [] (fun hHeld HT_ HW_ => ?_)
 generalize w7.drew = w8 at BK101 BK102 HB hHeld ⊢
 refine pA 0 5 HT_ ?_; refine pA 2 7 HT_ ?_; refine pA 5 10 HT_ ?_; refine pA 7 12 HT_ ?_; refine tA 1 6 HT_ HW_ hHeld ?_; refine tA 3 8 HT_ HW_ hHeld ?_; refine tA 6 11 HT_ HW_ hHeld ?_; refine tA 8 13 HT_ HW_ hHeld ?_; refine oA 4 9 HT_ (fun K hK => ?_)
 refine goes_ Tryd.func105 (by kernel_rfl) rfl #[.string a0_0, .string a1_0] (by rfl) rfl rfl zee81 ?_
 with_reducible refine (cmp_Compare_string.calls a0_0 a1_0 t103 _ A3.out).mono ?_
 rintro e w' ⟨rfl, ⟨nd, rfl⟩⟩
 refine ⟨_, rfl, ?_⟩
 refine hK.out _ _ sZ (fun hHeld => ?_)
 clear hK K
 refine nA 9 ?_; refine oA 9 14 HT_ (fun K hK => ?_)
 refine goes_ Tryd.func105 (by kernel_rfl) rfl #[.string a0_1, .string a1_1] (by rfl) rfl rfl zee81 ?_
 with_reducible refine (cmp_Compare_string.calls a0_1 a1_1 t104 _ A4.out).mono ?_
 rintro e w' ⟨rfl, ⟨nd, rfl⟩⟩
 refine ⟨_, rfl, ?_⟩
 refine hK.out _ _ sZ (fun hHeld => ?_)
 clear hK K
 refine nA 14 ?_; refine oA 10 15 HT_ (fun K hK => ?_)
 refine Kd.R_lit_step (Kd.int .i64) _ 3 ?hg (N := 15) ?hd (xs := ([t103, t104] : List Int)) (inner := [.int .i64 t103, .int .i64 t104]) (ok := fun _ => True) (okp := fun _ => True) ?hr ?hp (fun _ hk => hk) trivial (Below.refl _ _) (Nat.le_refl _) (by simp) ?_; (case hd => rfl); (case hg => rfl); (case hr => first | (go_simp; done) | (go_simp; rfl)); (case hp => exact (Reps.one (show Kd.M (Kd.int .i64) _ _ _ t103 [.int .i64 t103] from rfl) (Reps.one (show Kd.M (Kd.int .i64) _ _ _ t104 [.int .i64 t104] from rfl) (Reps.none _ _))))
 intro v106 w9 ho10 hb hg_ hnew_
 clear hg_ hnew_
 (first | rw [← Ny105.out] at ho10 | (simp only [Int.reduceToNat] at ho10; rw [← Ny105.out] at ho10))
 have _ := aM (Kd.R_lower ho10 (below_size hbZ))
 have _ := bB gb101 hb
 have _ := bB gb102 hb
 have _ := aM (below_step hbZ hb)
 clear BK101
 clear BK102
 clear HB
 rename_i HO107 BK101 BK102 HB
 clear hb ho10
 obtain ⟨Ao11, co11, eo11⟩ := Kd.R_slice HO107.out
 (first | subst eo11 | (injection eo11 with f1_ f2_ f3_; have f4_ := f1_.symm; have f5_ := f3_.symm; clear f1_ f2_ f3_; subst f4_; subst f5_))
 refine hK.out _ _ sZ (fun hHeld => ?_)
 clear hK K
 refine nA 15 ?_; refine oA 11 16 HT_ (fun K hK => ?_)
 refine goes_ Tryd.func104 (by kernel_rfl) rfl #[.slice Ao11 y105.length co11] (by rfl) rfl rfl zee81 ?_
 with_reducible refine (cmp_Or_int.calls k _ _ y105 t108 _ ?side1 ?side2 A5.out).mono ?_
 (case side1 => exact (by repeat (first | exact (Kd.R_reads' HO107.out).2.2 | (with_reducible refine Kd.C_alloc ?_ _) | (with_reducible refine Kd.C_drewN ?_ _) | (with_reducible refine Kd.C_drew ?_))))
 (case side2 => exact (Kd.R_reads' HO107.out).2.1)
 rintro e w' ⟨rfl, ⟨nd, rfl⟩⟩
 refine ⟨_, rfl, ?_⟩
 refine hK.out _ _ sZ (fun hHeld => ?_)
 clear hK K
 refine nA 16 ?_; refine pA 12 4 HT_ ?_
 refine done_ (done_of HT_.out (by kernel_rfl)) ?_
 try go_wp2
 go_ret
 exact ⟨z674d, zcb41⟩

end Go.Proofs.YtkgmoajdcibafaaDoor.P

-- written by a program of this session's (wip/pp)
namespace Go.Proofs.YtkgmoajdcibafaaDoor.P
open Go.RowKit Go.Proofs.YtkgmoajdcibafaaDoorW.PrintWords Go.Proofs.YtkgmoajdcibafaaDoorW.PrintLast Go.Proofs.YtkgmoajdcibafaaDoorW.PrintMore
attribute [local go_sem] max2_int min2_int max_two min_two max_three min_three max_four min_four str_geq str_gtr str_leq   -- for this text's walks alone
set_option linter.unusedVariables false
set_option linter.unusedSimpArgs false

/-! ### impl_Tag_with_impl_CompareKeys_1: function 10102103 -/
def impl_Tag_with_impl_CompareKeys_1.l0 : Nat → List (S123) → List (S123) → List (S123) → Int → Int → Option (Int)
 | 0, _, _, _, _, _ => none
 | k + 1, x0, x1, x11, x12, x13 => if x13 < x12 then (if 0 ≤ x13 then (if x13 < (x11.length : Int) then (if x13 ≥ (x1.length : Int) then (some 1) else (if x13 < (x1.length : Int) then ((impl_CompareKeys_1.f k ((rd_T123 x11 x13).f0) ((rd_T123 x11 x13).f1) ((rd_T123 x1 x13).f0) ((rd_T123 x1 x13).f1)).bind fun t105 => (if t105 = 0 then (impl_Tag_with_impl_CompareKeys_1.l0 k x0 x1 x11 x12 (wrap64 (x13 + 1))) else (some t105))) else (none))) else (none)) else (none)) else (if (x0.length : Int) < (x1.length : Int) then (some (-1)) else (some 0))
def impl_Tag_with_impl_CompareKeys_1.f (k : Nat) (l0 : List (S123)) (l1 : List (S123))  : Option (Int) := impl_Tag_with_impl_CompareKeys_1.l0 k l0 l1 l0 (l0.length : Int) 0
theorem impl_Tag_with_impl_CompareKeys_1.mono_l : ∀ k, (∀ y0 y1 y2 y3 y4, LeO (impl_Tag_with_impl_CompareKeys_1.l0 k y0 y1 y2 y3 y4) (impl_Tag_with_impl_CompareKeys_1.l0 (k + 1) y0 y1 y2 y3 y4))
 | 0 => fun _ _ _ _ _ r h => by simp [impl_Tag_with_impl_CompareKeys_1.l0] at h
 | k + 1 => by
  have ih0 := impl_Tag_with_impl_CompareKeys_1.mono_l k; have m0 := @impl_CompareKeys_1.mono
  · intro y0 y1 y2 y3 y4
    unfold impl_Tag_with_impl_CompareKeys_1.l0
    exact moZ
theorem impl_Tag_with_impl_CompareKeys_1.mono : ∀ a0 a1 k, LeO (impl_Tag_with_impl_CompareKeys_1.f k a0 a1) (impl_Tag_with_impl_CompareKeys_1.f (k + 1) a0 a1) := by
 intro a0 a1 k
 have ih0 := impl_Tag_with_impl_CompareKeys_1.mono_l k
 have m0 := @impl_CompareKeys_1.mono
 unfold impl_Tag_with_impl_CompareKeys_1.f
 exact moZ
set_option maxHeartbeats 8000000 in
set_option maxRecDepth 100000 in
theorem impl_Tag_with_impl_CompareKeys_1.calls (k : Nat) (A0 : Option Addr) (c0 : Nat) (l0 : List (S123)) (A1 : Option Addr) (c1 : Nat) (l1 : List (S123))  (r : Int) (w : World) (hr0 : Kd.C k123 w A0 l0.length l0) (hc0 : l0.length ≤ c0) (hr1 : Kd.C k123 w A1 l1.length l1) (hc1 : l1.length ≤ c1) (h : impl_Tag_with_impl_CompareKeys_1.f k l0 l1 = some r) :
 Calls Tryd.prog 102 #[.slice A0 l0.length c0, .slice A1 l1.length c1, .func (.func 103) #[] #[]] w fun e w' => e = .returned (.int .i64 r) ∧ Below w.heap.size w w' := by
 have hu123 := Tryd.underlying123
 have HR0 := aM hr0
 have HC0 := aM hc0
 clear hr0 hc0
 have HR1 := aM hr1
 have HC1 := aM hc1
 clear hr1 hc1
 have HB := aM (Below.refl w.heap.size w)
 have H : (impl_Tag_with_impl_CompareKeys_1.l0 k l0 l1 l0 (l0.length : Int) 0) = some r := h
 clear h
 have H' := aM H
 clear H
 go_enter Tryd.func102, Tryd.ntmps102
 go_wp2
 go_loopg [13] k (fun kq v13 w' => ∃ (x13_1 : Int), v13 = .int .i64 x13_1 ∧ Aside0 (impl_Tag_with_impl_CompareKeys_1.l0 kq l0 l1 l0 (l0.length : Int) x13_1 = some r) ∧ Aside0 (kq ≤ k) ∧ Aside0 (Below w.heap.size w w'))
 case atStart => exact ⟨(0), z4458, H', ⟨Nat.le_refl _⟩, ⟨z5acd⟩⟩
 case round =>
  clear H'
  (try clear c1)
  obtain ⟨x13_1, rfl, HA, HK1, HB⟩ := hrel
  cases gk with
  | zero => exact absurd HA.out (by simp [impl_Tag_with_impl_CompareKeys_1.l0])
  | succ k1 =>
   have H := HA.out
   clear HA
   simp only [impl_Tag_with_impl_CompareKeys_1.l0] at H
   by_cases c4 : x13_1 < (l0.length : Int)
   · rw [if_pos c4] at H
     have c4b0 := dL c4
     clear c4
     obtain ⟨c5b0, H⟩ := sE H
     obtain ⟨c6b0, H⟩ := sL H
     by_cases c7 : x13_1 ≥ (l1.length : Int)
     · rw [if_pos c7] at H
       have c7b0 := dE c7
       clear c7
       obtain rfl := Option.some.inj H
       have p101 : 0 ≤ (x13_1 : Int) := of_decide_eq_true z1200
       have q101 : x13_1 < (l0.length : Int) := of_decide_eq_true z1200
       obtain ⟨ad101, e101, hx101_0, hx101_1⟩ := at_T123 HR0.out x13_1 p101 q101
       cases e101
       replace hx101_0 := (HB.out.cell (World.block_lt_of_cell? w _ hx101_0)).trans hx101_0
       replace hx101_1 := (HB.out.cell (World.block_lt_of_cell? w _ hx101_1)).trans hx101_1
       replace p101 := eq_true p101
       replace q101 := eq_true q101
       go_wp2_with (first | ((with_reducible refine gate_dst (N := 8) rfl ?_); refine bX 8 123 #[.string (⟨#[]⟩ : ByteArray), .string (⟨#[]⟩ : ByteArray)] ?_; intro gb102 hg w8 hbox hb; have _ := aM (below_step hbZ hb); have _ := aM hbox; have _ := szZ hg; have _ := szZ hg; clear HB; rename_i HB BK102 GW102 GE102; clear hb hbox hg; have hz9 := cellsZ2 BK102.out))
       go_ret
       exact ⟨z674d, zcb41⟩
     · rw [if_neg c7] at H
       have c7b0 := nE c7
       clear c7
       obtain ⟨c10b0, H⟩ := sL H
       obtain ⟨t105, A11, H⟩ := bS H; try dsimp only at H
       by_cases c12 : t105 = 0
       · rw [if_pos c12] at H
         have c12b0 : (t105 == 0) = true := beq_iff_eq.mpr c12
         have c12b1 : (t105 != 0) = false := bne_eq_false_iff_eq.mpr c12
         clear c12
         have H' := aM H
         clear H
         have p101 : 0 ≤ (x13_1 : Int) := of_decide_eq_true z1200
         have q101 : x13_1 < (l0.length : Int) := of_decide_eq_true z1200
         obtain ⟨ad101, e101, hx101_0, hx101_1⟩ := at_T123 HR0.out x13_1 p101 q101
         cases e101
         replace hx101_0 := (HB.out.cell (World.block_lt_of_cell? w _ hx101_0)).trans hx101_0
         replace hx101_1 := (HB.out.cell (World.block_lt_of_cell? w _ hx101_1)).trans hx101_1
         replace p101 := eq_true p101
         replace q101 := eq_true q101
         go_wp2_with (first | ((with_reducible refine gate_dst (N := 8) rfl ?_); refine bX 8 123 #[.string (⟨#[]⟩ : ByteArray), .string (⟨#[]⟩ : ByteArray)] ?_; intro gb102 hg w13 hbox hb; have _ := aM (below_step hbZ hb); have _ := aM hbox; have _ := szZ hg; have _ := szZ hg; clear HB; rename_i HB BK102 GW102 GE102; clear hb hbox hg; have hz14 := cellsZ2 BK102.out; have p103 : 0 ≤ (x13_1 : Int) := of_decide_eq_true z1200; have q103 : x13_1 < (l1.length : Int) := of_decide_eq_true z1200; obtain ⟨ad103, e103, hx103_0, hx103_1⟩ := at_T123 HR1.out x13_1 p103 q103; cases e103; have hn103_0 : ad103.block ≠ gb102 := Nat.ne_of_lt (Nat.lt_of_lt_of_le (by have := World.block_lt_of_cell? _ _ hx103_0; first | rwa [add_block] at this | exact this) GW102.out); have hn103_1 : ad103.block ≠ gb102 := Nat.ne_of_lt (Nat.lt_of_lt_of_le (by have := World.block_lt_of_cell? _ _ hx103_0; first | rwa [add_block] at this | exact this) GW102.out); replace hx103_0 := (HB.out.cell (World.block_lt_of_cell? w _ hx103_0)).trans hx103_0; replace hx103_1 := (HB.out.cell (World.block_lt_of_cell? w _ hx103_1)).trans hx103_1; replace hx103_0 := (cell_far (p := ⟨gb102, 0, none⟩) (by first | (rw [add_block]; exact hn103_0) | (show (Addr.add _ _).block ≠ _; rw [add_block]; exact hn103_0) | exact hn103_0) (.string ((rd_T123 l0 x13_1).f0))).trans hx103_0; replace hx103_1 := (cell_far (p := ⟨gb102, 0, none⟩) (by first | (rw [add_block]; exact hn103_0) | (show (Addr.add _ _).block ≠ _; rw [add_block]; exact hn103_0) | exact hn103_0) (.string ((rd_T123 l0 x13_1).f0))).trans hx103_1; replace hx103_0 := (cell_far (p := ⟨gb102, 1, none⟩) (by first | (rw [add_block]; exact hn103_1) | (show (Addr.add _ _).block ≠ _; rw [add_block]; exact hn103_1) | exact hn103_1) (.string ((rd_T123 l0 x13_1).f1))).trans hx103_0; replace hx103_1 := (cell_far (p := ⟨gb102, 1, none⟩) (by first | (rw [add_block]; exact hn103_1) | (show (Addr.add _ _).block ≠ _; rw [add_block]; exact hn103_1) | exact hn103_1) (.string ((rd_T123 l0 x13_1).f1))).trans hx103_1; clear hn103_0 hn103_1; replace p103 := eq_true p103; replace q103 := eq_true q103) | ((with_reducible refine gate_dst (N := 9) rfl ?_); refine bX 9 123 #[.string (⟨#[]⟩ : ByteArray), .string (⟨#[]⟩ : ByteArray)] ?_; intro gb104 hg w15 hbox hb; have _ := aM (blk_below (g := gb102) (o := .cells #[.string ((rd_T123 l0 x13_1).f0), .string ((rd_T123 l0 x13_1).f1)] 123 (0, 0)) bkZ hb); have _ := aM (below_step hbZ hb); have _ := aM hbox; have _ := szZ hg; have _ := szZ hg; have ⟨_, _⟩ := nbB gb102 hg; clear BK102 HB; rename_i BK102 HB BK104 GW104 GE104 NB102_104 NB104_102; clear hb hbox hg; have hnb16 := NB104_102.out; have hnc16 := NB102_104.out; have hz17 := cellsZ2 BK104.out; have hz18 := cellsZ2 BK102.out) | (go_at_call 103; (with_reducible refine (impl_CompareKeys_1.calls k1 ((rd_T123 l0 x13_1).f0) ((rd_T123 l0 x13_1).f1) ((rd_T123 l1 x13_1).f0) ((rd_T123 l1 x13_1).f1) t105 _ A11.out).mono ?_); rintro e w19 ⟨rfl, hb⟩; have _ := bB gb102 hb; have _ := aM (blk_below (g := gb104) (o := .cells #[.string ((rd_T123 l1 x13_1).f0), .string ((rd_T123 l1 x13_1).f1)] 123 (0, 0)) bkZ hb); have _ := aM (below_step hbZ hb); clear BK102 BK104 HB; rename_i BK102 BK104 HB; (try clear hb)))
         go_roundg k1
         case measure => have := HK1.out; omega
         case rel => exact ⟨(wrap64 (x13_1 + 1)), z4458, H', ⟨zfb39⟩, ⟨zcb41⟩⟩
       · rw [if_neg c12] at H
         have c12b0 := eqN c12
         obtain rfl := Option.some.inj H
         have p101 : 0 ≤ (x13_1 : Int) := of_decide_eq_true z1200
         have q101 : x13_1 < (l0.length : Int) := of_decide_eq_true z1200
         obtain ⟨ad101, e101, hx101_0, hx101_1⟩ := at_T123 HR0.out x13_1 p101 q101
         cases e101
         replace hx101_0 := (HB.out.cell (World.block_lt_of_cell? w _ hx101_0)).trans hx101_0
         replace hx101_1 := (HB.out.cell (World.block_lt_of_cell? w _ hx101_1)).trans hx101_1
         replace p101 := eq_true p101
         replace q101 := eq_true q101
         go_wp2_with (first | ((with_reducible refine gate_dst (N := 8) rfl ?_); refine bX 8 123 #[.string (⟨#[]⟩ : ByteArray), .string (⟨#[]⟩ : ByteArray)] ?_; intro gb102 hg w20 hbox hb; have _ := aM (below_step hbZ hb); have _ := aM hbox; have _ := szZ hg; have _ := szZ hg; clear HB; rename_i HB BK102 GW102 GE102; clear hb hbox hg; have hz21 := cellsZ2 BK102.out; have p103 : 0 ≤ (x13_1 : Int) := of_decide_eq_true z1200; have q103 : x13_1 < (l1.length : Int) := of_decide_eq_true z1200; obtain ⟨ad103, e103, hx103_0, hx103_1⟩ := at_T123 HR1.out x13_1 p103 q103; cases e103; have hn103_0 : ad103.block ≠ gb102 := Nat.ne_of_lt (Nat.lt_of_lt_of_le (by have := World.block_lt_of_cell? _ _ hx103_0; first | rwa [add_block] at this | exact this) GW102.out); have hn103_1 : ad103.block ≠ gb102 := Nat.ne_of_lt (Nat.lt_of_lt_of_le (by have := World.block_lt_of_cell? _ _ hx103_0; first | rwa [add_block] at this | exact this) GW102.out); replace hx103_0 := (HB.out.cell (World.block_lt_of_cell? w _ hx103_0)).trans hx103_0; replace hx103_1 := (HB.out.cell (World.block_lt_of_cell? w _ hx103_1)).trans hx103_1; replace hx103_0 := (cell_far (p := ⟨gb102, 0, none⟩) (by first | (rw [add_block]; exact hn103_0) | (show (Addr.add _ _).block ≠ _; rw [add_block]; exact hn103_0) | exact hn103_0) (.string ((rd_T123 l0 x13_1).f0))).trans hx103_0; replace hx103_1 := (cell_far (p := ⟨gb102, 0, none⟩) (by first | (rw [add_block]; exact hn103_0) | (show (Addr.add _ _).block ≠ _; rw [add_block]; exact hn103_0) | exact hn103_0) (.string ((rd_T123 l0 x13_1).f0))).trans hx103_1; replace hx103_0 := (cell_far (p := ⟨gb102, 1, none⟩) (by first | (rw [add_block]; exact hn103_1) | (show (Addr.add _ _).block ≠ _; rw [add_block]; exact hn103_1) | exact hn103_1) (.string ((rd_T123 l0 x13_1).f1))).trans hx103_0; replace hx103_1 := (cell_far (p := ⟨gb102, 1, none⟩) (by first | (rw [add_block]; exact hn103_1) | (show (Addr.add _ _).block ≠ _; rw [add_block]; exact hn103_1) | exact hn103_1) (.string ((rd_T123 l0 x13_1).f1))).trans hx103_1; clear hn103_0 hn103_1; replace p103 := eq_true p103; replace q103 := eq_true q103) | ((with_reducible refine gate_dst (N := 9) rfl ?_); refine bX 9 123 #[.string (⟨#[]⟩ : ByteArray), .string (⟨#[]⟩ : ByteArray)] ?_; intro gb104 hg w22 hbox hb; have _ := aM (blk_below (g := gb102) (o := .cells #[.string ((rd_T123 l0 x13_1).f0), .string ((rd_T123 l0 x13_1).f1)] 123 (0, 0)) bkZ hb); have _ := aM (below_step hbZ hb); have _ := aM hbox; have _ := szZ hg; have _ := szZ hg; have ⟨_, _⟩ := nbB gb102 hg; clear BK102 HB; rename_i BK102 HB BK104 GW104 GE104 NB102_104 NB104_102; clear hb hbox hg; have hnb23 := NB104_102.out; have hnc23 := NB102_104.out; have hz24 := cellsZ2 BK104.out; have hz25 := cellsZ2 BK102.out) | (go_at_call 103; (with_reducible refine (impl_CompareKeys_1.calls k1 ((rd_T123 l0 x13_1).f0) ((rd_T123 l0 x13_1).f1) ((rd_T123 l1 x13_1).f0) ((rd_T123 l1 x13_1).f1) t105 _ A11.out).mono ?_); rintro e w26 ⟨rfl, hb⟩; have _ := bB gb102 hb; have _ := aM (blk_below (g := gb104) (o := .cells #[.string ((rd_T123 l1 x13_1).f0), .string ((rd_T123 l1 x13_1).f1)] 123 (0, 0)) bkZ hb); have _ := aM (below_step hbZ hb); clear BK102 BK104 HB; rename_i BK102 BK104 HB; (try clear hb)))
         go_ret
         exact ⟨z674d, zcb41⟩
   · rw [if_neg c4] at H
     have c4b0 := nL c4
     clear c4
     by_cases c27 : (l0.length : Int) < (l1.length : Int)
     · rw [if_pos c27] at H
       have c27b0 : decide ((l0.length : Int) < (l1.length : Int)) = true := decide_eq_true c27
       have c27b1 : decide (l0.length < l1.length) = true := decide_eq_true (Int.ofNat_lt.mp c27)
       clear c27
       obtain rfl := Option.some.inj H
       go_wp2
       go_ret
       exact ⟨z674d, z5acd⟩
     · rw [if_neg c27] at H
       have c27b0 : decide ((l0.length : Int) < (l1.length : Int)) = false := decide_eq_false c27
       have c27b1 : decide (l0.length < l1.length) = false := decide_eq_false (fun h => c27 (Int.ofNat_lt.mpr h))
       clear c27
       obtain rfl := Option.some.inj H
       go_wp2
       go_ret
       exact ⟨z674d, z5acd⟩

end Go.Proofs.YtkgmoajdcibafaaDoor.P

-- written by a program of this session's (wip/pp)
namespace Go.Proofs.YtkgmoajdcibafaaDoor.P
open Go.RowKit Go.Proofs.YtkgmoajdcibafaaDoorW.PrintWords Go.Proofs.YtkgmoajdcibafaaDoorW.PrintLast Go.Proofs.YtkgmoajdcibafaaDoorW.PrintMore
attribute [local go_sem] max2_int min2_int max_two min_two max_three min_three max_four min_four str_geq str_gtr str_leq   -- for this text's walks alone
set_option linter.unusedVariables false
set_option linter.unusedSimpArgs false

/-! ### impl_CompareKeys: function 72 -/
def impl_CompareKeys.j0 : Nat → Bool → ByteArray → List (S123) → Int → ByteArray → List (S123) → Int → Option (Int)
 | 0, _, _, _, _, _, _, _ => none
 | k + 1, x13, x102000, x102001, x102002, x103000, x103001, x103002 => if x13 = true then (some 0) else ((impl_Tag_with_impl_CompareKeys_1.f k x102001 x103001).bind fun t105 => ((cmp_Compare_string.f x102000 x103000).bind fun t106 => ((cmp_Compare_int.f x102002 x103002).bind fun t107 => ((cmp_Or_int.f k (([t106, t105, t107] : List Int))).bind fun t111 => (some t111)))))
def impl_CompareKeys.f (k : Nat) (a0_0 : ByteArray) (l0_1 : List (S123)) (a0_2 : Int) (a1_0 : ByteArray) (l1_1 : List (S123)) (a1_2 : Int) : Option (Int) := (impl_GoodKey.f k a0_0 l0_1 a0_2).bind fun t103 => (if t103 = true then ((impl_GoodKey.f k a1_0 l1_1 a1_2).bind fun t104 => (impl_CompareKeys.j0 k (!t104) a0_0 l0_1 a0_2 a1_0 l1_1 a1_2)) else (impl_CompareKeys.j0 k true a0_0 l0_1 a0_2 a1_0 l1_1 a1_2))
theorem impl_CompareKeys.mono_l : ∀ k, (∀ y0 y1 y2 y3 y4 y5 y6, LeO (impl_CompareKeys.j0 k y0 y1 y2 y3 y4 y5 y6) (impl_CompareKeys.j0 (k + 1) y0 y1 y2 y3 y4 y5 y6))
 | 0 => fun _ _ _ _ _ _ _ r h => by simp [impl_CompareKeys.j0] at h
 | k + 1 => by
  have ih0 := impl_CompareKeys.mono_l k; have m0 := @cmp_Or_int.mono; have m1 := @impl_GoodKey.mono; have m2 := @impl_Tag_with_impl_CompareKeys_1.mono
  · intro y0 y1 y2 y3 y4 y5 y6
    unfold impl_CompareKeys.j0
    exact moZ
theorem impl_CompareKeys.mono : ∀ a0 a1 a2 a3 a4 a5 k, LeO (impl_CompareKeys.f k a0 a1 a2 a3 a4 a5) (impl_CompareKeys.f (k + 1) a0 a1 a2 a3 a4 a5) := by
 intro a0 a1 a2 a3 a4 a5 k
 have ih0 := impl_CompareKeys.mono_l k
 have m0 := @cmp_Or_int.mono; have m1 := @impl_GoodKey.mono; have m2 := @impl_Tag_with_impl_CompareKeys_1.mono
 unfold impl_CompareKeys.f
 exact moZ
def impl_CompareKeys.T4 : Bool × List (List Nat × List Nat) := (true, [([], []), ([0], [0]), ([], []), ([2], [2]), ([1, 3], [1, 3]), ([], []), ([], []), ([6], [6]), ([], []), ([8], [8]), ([7, 9, 4], [7, 9]), ([4, 5, 10], [4, 5, 10]), ([11, 10], [11]), ([12, 12, 0, 1, 2, 3, 4, 5, 6, 7, 8, 9, 10, 11, 12], [12])])
def impl_CompareKeys.B4 : List Nat := [0, 1, 0, 4, 15, 0, 0, 64, 0, 256, 991, 2047, 4095, 8191]
theorem impl_CompareKeys.tab4 : rtab .any (opsOf Tryd.f72 4) = impl_CompareKeys.T4 := by kernel_rfl
theorem impl_CompareKeys.bits4 : waitsOk impl_CompareKeys.T4.2 impl_CompareKeys.B4 = true := by kernel_rfl
set_option maxHeartbeats 8000000 in
set_option maxRecDepth 100000 in
theorem impl_CompareKeys.calls (k : Nat) (a0_0 : ByteArray) (A0_1 : Option Addr) (c0_1 : Nat) (l0_1 : List (S123)) (a0_2 : Int) (a1_0 : ByteArray) (A1_1 : Option Addr) (c1_1 : Nat) (l1_1 : List (S123)) (a1_2 : Int) (r : Int) (w : World) (hr0_1 : Kd.C k123 w A0_1 l0_1.length l0_1) (hc0_1 : l0_1.length ≤ c0_1) (hr1_1 : Kd.C k123 w A1_1 l1_1.length l1_1) (hc1_1 : l1_1.length ≤ c1_1) (h : impl_CompareKeys.f k a0_0 l0_1 a0_2 a1_0 l1_1 a1_2 = some r) :
 Calls Tryd.prog 72 #[.agg #[.string a0_0, .slice A0_1 l0_1.length c0_1, .int .i64 a0_2], .agg #[.string a1_0, .slice A1_1 l1_1.length c1_1, .int .i64 a1_2]] w fun e w' => e = .returned (.int .i64 r) ∧ Below w.heap.size w w' := by
 have hu32 := Tryd.underlying32
 have HR0_1 := aM hr0_1
 have HC0_1 := aM hc0_1
 clear hr0_1 hc0_1
 have HR1_1 := aM hr1_1
 have HC1_1 := aM hc1_1
 clear hr1_1 hc1_1
 have HB := aM (Below.refl w.heap.size w)
 have H : ((impl_GoodKey.f k a0_0 l0_1 a0_2).bind fun t103 => (if t103 = true then ((impl_GoodKey.f k a1_0 l1_1 a1_2).bind fun t104 => (impl_CompareKeys.j0 k (!t104) a0_0 l0_1 a0_2 a1_0 l1_1 a1_2)) else (impl_CompareKeys.j0 k true a0_0 l0_1 a0_2 a1_0 l1_1 a1_2))) = some r := h
 clear h
 have HC3 := aM H
 clear H
 go_enter Tryd.func72, Tryd.ntmps72
 go_upto_region 1 with (first | ((with_reducible refine gate_dst (N := 2) rfl ?_); refine bX 2 32 #[.string a0_0, .slice A0_1 l0_1.length c0_1, .int .i64 a0_2] ?_; intro gb101 hg w4 hbox hb; have _ := aM (below_step hbZ hb); have _ := aM hbox; have _ := szZ hg; have _ := szZ hg; clear HB; rename_i HB BK101 GW101 GE101; clear hb hbox hg) | ((with_reducible refine gate_dst (N := 3) rfl ?_); refine bX 3 32 #[.string a1_0, .slice A1_1 l1_1.length c1_1, .int .i64 a1_2] ?_; intro gb102 hg w5 hbox hb; have _ := bB gb101 hb; have _ := aM (below_step hbZ hb); have _ := aM hbox; have _ := szZ hg; have _ := szZ hg; have ⟨_, _⟩ := nbB gb101 hg; clear BK101 HB; rename_i BK101 HB BK102 GW102 GE102 NB101_102 NB102_101; clear hb hbox hg))
 (try simp only [Act.put, List.setIfInBounds_toArray, List.set_cons_zero, List.set_cons_succ])
 go_cut [13] (fun v13 wc => ∃ (kq : Nat) (x13_2 : Bool), v13 = .bool x13_2 ∧ Aside0 (impl_CompareKeys.j0 kq x13_2 a0_0 l0_1 a0_2 a1_0 l1_1 a1_2 = some r) ∧ Aside0 (kq ≤ k) ∧ Aside0 (wc.heap[gb101]? = some (.cells #[.string a0_0, (.slice A0_1 l0_1.length c0_1), .int .i64 a0_2] 32 (0, 0))) ∧ Aside0 (wc.heap[gb102]? = some (.cells #[.string a1_0, (.slice A1_1 l1_1.length c1_1), .int .i64 a1_2] 32 (0, 0))) ∧ Aside0 (Below w.heap.size w wc))
 case first =>
  have H := HC3.out
  clear HC3
  obtain ⟨t103, A6, H⟩ := bS H; try dsimp only at H
  by_cases c7 : t103 = true
  · subst c7
    rw [if_pos rfl] at H
    obtain ⟨t104, A8, H⟩ := bS H; try dsimp only at H
    have H' := aM H
    clear H
    have hnb9 := NB101_102.out
    have hnc9 := NB102_101.out
    have hz10 := cellsZ3 BK101.out
    go_wp2_with (first | ((with_reducible refine gate_callee (f := 47) rfl ?_); refine gL 7 Tryd.func47 #[.agg #[.string a0_0, .slice A0_1 l0_1.length c0_1, .int .i64 a0_2]] ?_; (with_reducible refine (impl_GoodKey.calls k a0_0 _ _ l0_1 a0_2 true _ ?side1 ?side2 A6.out).mono ?_); (case side1 => exact (cZ (Kd.C_below HR0_1.out HB.out))); (case side2 => exact HC0_1.out); rintro e w11 ⟨rfl, hb⟩; refine ⟨_, rfl, ?_⟩; have _ := bB gb101 hb; have _ := bB gb102 hb; have _ := aM (below_step hbZ hb); clear BK101 BK102 HB; rename_i BK101 BK102 HB; (try clear hb); have hz12 := cellsZ3 BK102.out) | (go_at_call 47; (with_reducible refine (impl_GoodKey.calls k a1_0 _ _ l1_1 a1_2 t104 _ ?side1 ?side2 A8.out).mono ?_); (case side1 => exact (cZ (Kd.C_below HR1_1.out HB.out))); (case side2 => exact HC1_1.out); rintro e w13 ⟨rfl, hb⟩; have _ := bB gb101 hb; have _ := bB gb102 hb; have _ := aM (below_step hbZ hb); clear BK101 BK102 HB; rename_i BK101 BK102 HB; (try clear hb)))
    go_meet
    case rel => exact ⟨_, (!t104), z4458, H', ⟨zb79b⟩, ⟨bkZ⟩, ⟨bkZ⟩, ⟨zcb41⟩⟩
  · replace c7 := Bool.eq_false_iff.mpr c7
    subst c7
    rw [if_neg (show ¬ (false = true) by decide)] at H
    have H' := aM H
    clear H
    have hnb14 := NB101_102.out
    have hnc14 := NB102_101.out
    have hz15 := cellsZ3 BK101.out
    go_wp2_with (first | ((with_reducible refine gate_callee (f := 47) rfl ?_); refine gL 7 Tryd.func47 #[.agg #[.string a0_0, .slice A0_1 l0_1.length c0_1, .int .i64 a0_2]] ?_; (with_reducible refine (impl_GoodKey.calls k a0_0 _ _ l0_1 a0_2 false _ ?side1 ?side2 A6.out).mono ?_); (case side1 => exact (cZ (Kd.C_below HR0_1.out HB.out))); (case side2 => exact HC0_1.out); rintro e w16 ⟨rfl, hb⟩; refine ⟨_, rfl, ?_⟩; have _ := bB gb101 hb; have _ := bB gb102 hb; have _ := aM (below_step hbZ hb); clear BK101 BK102 HB; rename_i BK101 BK102 HB; (try clear hb)))
    go_meet
    case rel => exact ⟨_, (true), z4458, H', ⟨zb79b⟩, ⟨bkZ⟩, ⟨bkZ⟩, ⟨zcb41⟩⟩
 case rest =>
  clear HC3
  (try clear c1)
  obtain ⟨kq, x13_2, rfl, HA, HJ2, BK101, BK102, HB⟩ := hcut
  cases kq with
  | zero => exact absurd HA.out (by simp [impl_CompareKeys.j0])
  | succ kj2 =>
   have H := HA.out
   clear HA
   simp only [impl_CompareKeys.j0] at H
   by_cases c17 : x13_2 = true
   · subst c17
     rw [if_pos rfl] at H
     obtain rfl := Option.some.inj H
     go_wp2
     go_ret
     exact ⟨z674d, zcb41⟩
   · replace c17 := Bool.eq_false_iff.mpr c17
     subst c17
     rw [if_neg (show ¬ (false = true) by decide)] at H
     obtain ⟨t105, A18, H⟩ := bS H; try dsimp only at H
     obtain ⟨t106, A19, H⟩ := bS H; try dsimp only at H
     obtain ⟨t107, A20, H⟩ := bS H; try dsimp only at H
     obtain ⟨y108, hy108⟩ : ∃ y_ : List Int, y_ = (([t106, t105, t107] : List Int)) := ⟨_, rfl⟩
     first | (replace H := bindS H; rw [← hy108] at H; try dsimp only at H) | rw [← hy108] at H
     have Ny108 := aM hy108
     clear hy108
     obtain ⟨t111, A21, H⟩ := bS H; try dsimp only at H
     obtain rfl := Option.some.inj H
     have hnb22 := NB101_102.out
     have hnc22 := NB102_101.out
     have hz23 := cellsZ3 BK101.out
     have hz24 := cellsZ3 BK102.out
     try go_wp2_with (first | ((with_reducible refine gate_callee (f := 102) rfl ?_); refine gL 18 Tryd.func102 #[.slice A0_1 l0_1.length c0_1, .slice A1_1 l1_1.length c1_1, .func (.func 103) #[] #[]] ?_; (with_reducible refine (impl_Tag_with_impl_CompareKeys_1.calls kj2 _ _ l0_1 _ _ l1_1  t105 _ ?side1 ?side2 ?side3 ?side4 A18.out).mono ?_); (case side1 => exact (cZ (Kd.C_below HR0_1.out HB.out))); (case side2 => exact HC0_1.out); (case side3 => exact (cZ (Kd.C_below HR1_1.out HB.out))); (case side4 => exact HC1_1.out); rintro e w25 ⟨rfl, hb⟩; refine ⟨_, rfl, ?_⟩; have _ := bB gb101 hb; have _ := bB gb102 hb; have _ := aM (below_step hbZ hb); clear BK101 BK102 HB; rename_i BK101 BK102 HB; (try clear hb)))
     have _ := aM (blk_drew BK101.out)
     have _ := aM (blk_drew BK102.out)
     have _ := aM (below_drew1 HB.out)
     clear BK101
     clear BK102
     clear HB
     rename_i BK101 BK102 HB
     refine sA 14 impl_CompareKeys.tab4 impl_CompareKeys.bits4 (fun w' => w'.cell? ⟨gb101, 0, none⟩ = some (.string a0_0) ∧ w'.cell? ⟨gb101, 1, none⟩ = some (.slice A0_1 l0_1.length c0_1) ∧ w'.cell? ⟨gb101, 2, none⟩ = some (.int .i64 a0_2) ∧ w'.cell? ⟨gb102, 0, none⟩ = some (.string a1_0) ∧ w'.cell? ⟨gb102, 1, none⟩ = some (.slice A1_1 l1_1.length c1_1) ∧ w'.cell? ⟨gb102, 2, none⟩ = some (.int .i64 a1_2)) [] (fun hHeld HT_ HW_ => ?_)
     generalize w25.drew = w26 at BK101 BK102 HB hHeld ⊢
     refine pA 0 19 HT_ ?_; refine pA 2 21 HT_ ?_; refine pA 5 24 HT_ ?_; refine pA 6 25 HT_ ?_; refine pA 8 27 HT_ ?_; refine tA 1 20 HT_ HW_ hHeld ?_; refine tA 3 22 HT_ HW_ hHeld ?_; refine tA 7 26 HT_ HW_ hHeld ?_; refine tA 9 28 HT_ HW_ hHeld ?_; refine oA 4 23 HT_ (fun K hK => ?_)
     refine goes_ Tryd.func105 (by kernel_rfl) rfl #[.string a0_0, .string a1_0] (by rfl) rfl rfl zee81 ?_
     with_reducible refine (cmp_Compare_string.calls a0_0 a1_0 t106 _ A19.out).mono ?_
     rintro e w' ⟨rfl, ⟨nd, rfl⟩⟩
     refine ⟨_, rfl, ?_⟩
     refine hK.out _ _ sZ (fun hHeld => ?_)
     clear hK K
     refine nA 23 ?_; refine oA 10 29 HT_ (fun K hK => ?_)
     refine goes_ Tryd.func106 (by kernel_rfl) rfl #[.int .i64 a0_2, .int .i64 a1_2] (by rfl) rfl rfl zee81 ?_
     with_reducible refine (cmp_Compare_int.calls a0_2 a1_2 t107 _ A20.out).mono ?_
     rintro e w' ⟨rfl, ⟨nd, rfl⟩⟩
     refine ⟨_, rfl, ?_⟩
     refine hK.out _ _ sZ (fun hHeld => ?_)
     clear hK K
     refine nA 29 ?_; refine oA 11 30 HT_ (fun K hK => ?_)
     refine Kd.R_lit_step (Kd.int .i64) _ 3 ?hg (N := 30) ?hd (xs := ([t106, t105, t107] : List Int)) (inner := [.int .i64 t106, .int .i64 t105, .int .i64 t107]) (ok := fun _ => True) (okp := fun _ => True) ?hr ?hp (fun _ hk => hk) trivial (Below.refl _ _) (Nat.le_refl _) (by simp) ?_; (case hd => rfl); (case hg => rfl); (case hr => first | (go_simp; done) | (go_simp; rfl)); (case hp => exact (Reps.one (show Kd.M (Kd.int .i64) _ _ _ t106 [.int .i64 t106] from rfl) (Reps.one (show Kd.M (Kd.int .i64) _ _ _ t105 [.int .i64 t105] from rfl) (Reps.one (show Kd.M (Kd.int .i64) _ _ _ t107 [.int .i64 t107] from rfl) (Reps.none _ _)))))
     intro v109 w27 ho28 hb hg_ hnew_
     clear hg_ hnew_
     (first | rw [← Ny108.out] at ho28 | (simp only [Int.reduceToNat] at ho28; rw [← Ny108.out] at ho28))
     have _ := aM (Kd.R_lower ho28 (below_size hbZ))
     have _ := bB gb101 hb
     have _ := bB gb102 hb
     have _ := aM (below_step hbZ hb)
     clear BK101
     clear BK102
     clear HB
     rename_i HO110 BK101 BK102 HB
     clear hb ho28
     obtain ⟨Ao29, co29, eo29⟩ := Kd.R_slice HO110.out
     (first | subst eo29 | (injection eo29 with f1_ f2_ f3_; have f4_ := f1_.symm; have f5_ := f3_.symm; clear f1_ f2_ f3_; subst f4_; subst f5_))
     refine hK.out _ _ sZ (fun hHeld => ?_)
     clear hK K
     refine nA 30 ?_; refine oA 12 31 HT_ (fun K hK => ?_)
     refine goes_ Tryd.func104 (by kernel_rfl) rfl #[.slice Ao29 y108.length co29] (by rfl) rfl rfl zee81 ?_
     with_reducible refine (cmp_Or_int.calls kj2 _ _ y108 t111 _ ?side1 ?side2 A21.out).mono ?_
     (case side1 => exact (by repeat (first | exact (Kd.R_reads' HO110.out).2.2 | (with_reducible refine Kd.C_alloc ?_ _) | (with_reducible refine Kd.C_drewN ?_ _) | (with_reducible refine Kd.C_drew ?_))))
     (case side2 => exact (Kd.R_reads' HO110.out).2.1)
     rintro e w' ⟨rfl, ⟨nd, rfl⟩⟩
     refine ⟨_, rfl, ?_⟩
     refine hK.out _ _ sZ (fun hHeld => ?_)
     clear hK K
     refine nA 31 ?_; refine pA 13 4 HT_ ?_
     refine done_ (done_of HT_.out (by kernel_rfl)) ?_
     try go_wp2
     go_ret
     exact ⟨z674d, zcb41⟩

end Go.Proofs.YtkgmoajdcibafaaDoor.P

-- written by a program of this session's (wip/pp)
namespace Go.Proofs.YtkgmoajdcibafaaDoor.P
open Go.RowKit Go.Proofs.YtkgmoajdcibafaaDoorW.PrintWords Go.Proofs.YtkgmoajdcibafaaDoorW.PrintLast Go.Proofs.YtkgmoajdcibafaaDoorW.PrintMore
attribute [local go_sem] max2_int min2_int max_two min_two max_three min_three max_four min_four str_geq str_gtr str_leq   -- for this text's walks alone
set_option linter.unusedVariables false
set_option linter.unusedSimpArgs false

/-! ### impl_isSize: function 89 -/
def impl_isSize.f (a0 : Int) : Option (Bool) := (impl_within.f a0 1 100000).bind fun t101 => (some t101)
set_option maxHeartbeats 8000000 in
set_option maxRecDepth 100000 in
theorem impl_isSize.calls (a0 : Int) (r : Bool) (w : World) (h : impl_isSize.f a0 = some r) :
 Calls Tryd.prog 89 #[.int .i64 a0] w fun e w' => e = .returned (.bool r) ∧ Drawn0 w w' := by
 have H : ((impl_within.f a0 1 100000).bind fun t101 => (some t101)) = some r := h
 clear h
 obtain ⟨t101, A2, H⟩ := bS H; try dsimp only at H
 obtain rfl := Option.some.inj H
 go_enter Tryd.func89, Tryd.ntmps89
 go_wp2_with (first | ((with_reducible refine gate_callee (f := 90) rfl ?_); refine gL 4 Tryd.func90 #[.int .i64 a0, .int .i64 1, .int .i64 100000] ?_; (with_reducible refine (impl_within.calls a0 1 100000 t101 _ A2.out).mono ?_); rintro e w' ⟨rfl, ⟨nd, rfl⟩⟩; refine ⟨_, rfl, ?_⟩))
 go_ret
 exact ⟨z4458, za9de⟩

end Go.Proofs.YtkgmoajdcibafaaDoor.P

-- written by a program of this session's (wip/pp)
namespace Go.Proofs.YtkgmoajdcibafaaDoor.P
open Go.RowKit Go.Proofs.YtkgmoajdcibafaaDoorW.PrintWords Go.Proofs.YtkgmoajdcibafaaDoorW.PrintLast Go.Proofs.YtkgmoajdcibafaaDoorW.PrintMore
attribute [local go_sem] max2_int min2_int max_two min_two max_three min_three max_four min_four str_geq str_gtr str_leq   -- for this text's walks alone
set_option linter.unusedVariables false
set_option linter.unusedSimpArgs false

/-! ### impl_isValue: function 111 -/
def impl_isValue.f (a0 : Int) : Option (Bool) := (impl_within.f a0 (-1000000000) 1000000000).bind fun t101 => (some t101)
set_option maxHeartbeats 8000000 in
set_option maxRecDepth 100000 in
theorem impl_isValue.calls (a0 : Int) (r : Bool) (w : World) (h : impl_isValue.f a0 = some r) :
 Calls Tryd.prog 111 #[.int .i64 a0] w fun e w' => e = .returned (.bool r) ∧ Drawn0 w w' := by
 have H : ((impl_within.f a0 (-1000000000) 1000000000).bind fun t101 => (some t101)) = some r := h
 clear h
 obtain ⟨t101, A2, H⟩ := bS H; try dsimp only at H
 obtain rfl := Option.some.inj H
 go_enter Tryd.func111, Tryd.ntmps111
 go_wp2_with (first | ((with_reducible refine gate_callee (f := 90) rfl ?_); refine gL 4 Tryd.func90 #[.int .i64 a0, .int .i64 (-1000000000), .int .i64 1000000000] ?_; (with_reducible refine (impl_within.calls a0 (-1000000000) 1000000000 t101 _ A2.out).mono ?_); rintro e w' ⟨rfl, ⟨nd, rfl⟩⟩; refine ⟨_, rfl, ?_⟩))
 go_ret
 exact ⟨z4458, za9de⟩

end Go.Proofs.YtkgmoajdcibafaaDoor.P

-- written by a program of this session's (wip/pp)
namespace Go.Proofs.YtkgmoajdcibafaaDoor.P
open Go.RowKit Go.Proofs.YtkgmoajdcibafaaDoorW.PrintWords Go.Proofs.YtkgmoajdcibafaaDoorW.PrintLast Go.Proofs.YtkgmoajdcibafaaDoorW.PrintMore
attribute [local go_sem] max2_int min2_int max_two min_two max_three min_three max_four min_four str_geq str_gtr str_leq   -- for this text's walks alone
set_option linter.unusedVariables false
set_option linter.unusedSimpArgs false

/-! ### impl_GoodAgg: function 91 -/
mutual
def impl_GoodAgg.j0 : Nat → Bool → Int → Int → Int → Int → List Int → Bool → Option (Bool)
 | 0, _, _, _, _, _, _, _ => none
 | k + 1, x15, x102000, x102001, x102002, x102003, x102004, x102005 => if x15 = true then (some false) else (impl_GoodAgg.l0 k 0 x102004 (x102004.length : Int) 0 x102000 x102001 x102002 x102003 x102004 x102005)
def impl_GoodAgg.l0 : Nat → Int → List Int → Int → Int → Int → Int → Int → Int → List Int → Bool → Option (Bool)
 | 0, _, _, _, _, _, _, _, _, _, _ => none
 | k + 1, x3, x17, x18, x19, x102000, x102001, x102002, x102003, x102004, x102005 => if x19 < x18 then (if 0 ≤ x19 then (if x19 < (x17.length : Int) then ((impl_within.f (rd x17 x19) 0 1000000000).bind fun t104 => (if t104 = true then (impl_GoodAgg.l0 k (wrap64 (x3 + (rd x17 x19))) x17 x18 (wrap64 (x19 + 1)) x102000 x102001 x102002 x102003 x102004 x102005) else (some false))) else (none)) else (none)) else (if x102005 = true then (impl_GoodAgg.j2 k x3 (x102001 != 0) x102000 x102001 x102002 x102003 x102004 x102005) else (impl_GoodAgg.j2 k x3 false x102000 x102001 x102002 x102003 x102004 x102005))
def impl_GoodAgg.j2 : Nat → Int → Bool → Int → Int → Int → Int → List Int → Bool → Option (Bool)
 | 0, _, _, _, _, _, _, _, _ => none
 | k + 1, x3, x30, x102000, x102001, x102002, x102003, x102004, x102005 => if x30 = true then (some false) else (if x102005 = true then (impl_GoodAgg.j3 k x3 false x102000 x102001 x102002 x102003 x102004 x102005) else (if x3 = x102000 then ((impl_within.f x102001 (wrap64 ((-1000000000) * x102000)) (wrap64 (1000000000 * x102000))).bind fun t105 => (impl_GoodAgg.j3 k x3 (!t105) x102000 x102001 x102002 x102003 x102004 x102005)) else (impl_GoodAgg.j3 k x3 true x102000 x102001 x102002 x102003 x102004 x102005)))
def impl_GoodAgg.j3 : Nat → Int → Bool → Int → Int → Int → Int → List Int → Bool → Option (Bool)
 | 0, _, _, _, _, _, _, _, _ => none
 | k + 1, x3, x38, x102000, x102001, x102002, x102003, x102004, x102005 => if x38 = true then (some false) else (if x102000 = 0 then (if x102002 = 0 then (if x102003 = 0 then (if x3 = 0 then (some (!x102005)) else (some false)) else (some false)) else (some false)) else ((impl_isValue.f x102002).bind fun t106 => (if t106 = true then ((impl_isValue.f x102003).bind fun t107 => (if t107 = true then (some (decide (x102002 ≤ x102003))) else (some false))) else (some false))))
end
def impl_GoodAgg.f (k : Nat) (a0_0 : Int) (a0_1 : Int) (a0_2 : Int) (a0_3 : Int) (l0_4 : List Int) (a0_5 : Bool) : Option (Bool) := (impl_within.f a0_0 0 1000000000).bind fun t102 => (if t102 = true then (impl_GoodAgg.j0 k ((l0_4.length : Int) != 8) a0_0 a0_1 a0_2 a0_3 l0_4 a0_5) else (impl_GoodAgg.j0 k true a0_0 a0_1 a0_2 a0_3 l0_4 a0_5))
theorem impl_GoodAgg.mono_l : ∀ k, (∀ y0 y1 y2 y3 y4 y5 y6, LeO (impl_GoodAgg.j0 k y0 y1 y2 y3 y4 y5 y6) (impl_GoodAgg.j0 (k + 1) y0 y1 y2 y3 y4 y5 y6)) ∧ (∀ y0 y1 y2 y3 y4 y5 y6 y7 y8 y9, LeO (impl_GoodAgg.l0 k y0 y1 y2 y3 y4 y5 y6 y7 y8 y9) (impl_GoodAgg.l0 (k + 1) y0 y1 y2 y3 y4 y5 y6 y7 y8 y9)) ∧ (∀ y0 y1 y2 y3 y4 y5 y6 y7, LeO (impl_GoodAgg.j2 k y0 y1 y2 y3 y4 y5 y6 y7) (impl_GoodAgg.j2 (k + 1) y0 y1 y2 y3 y4 y5 y6 y7)) ∧ (∀ y0 y1 y2 y3 y4 y5 y6 y7, LeO (impl_GoodAgg.j3 k y0 y1 y2 y3 y4 y5 y6 y7) (impl_GoodAgg.j3 (k + 1) y0 y1 y2 y3 y4 y5 y6 y7))
 | 0 => ⟨fun _ _ _ _ _ _ _ r h => by simp [impl_GoodAgg.j0] at h, fun _ _ _ _ _ _ _ _ _ _ r h => by simp [impl_GoodAgg.l0] at h, fun _ _ _ _ _ _ _ _ r h => by simp [impl_GoodAgg.j2] at h, fun _ _ _ _ _ _ _ _ r h => by simp [impl_GoodAgg.j3] at h⟩
 | k + 1 => by
  obtain ⟨ih0, ih1, ih2, ih3⟩ := impl_GoodAgg.mono_l k
  refine ⟨?_, ?_, ?_, ?_⟩
  · intro y0 y1 y2 y3 y4 y5 y6
    unfold impl_GoodAgg.j0
    exact moZ
  · intro y0 y1 y2 y3 y4 y5 y6 y7 y8 y9
    unfold impl_GoodAgg.l0
    exact moZ
  · intro y0 y1 y2 y3 y4 y5 y6 y7
    unfold impl_GoodAgg.j2
    exact moZ
  · intro y0 y1 y2 y3 y4 y5 y6 y7
    unfold impl_GoodAgg.j3
    exact moZ
theorem impl_GoodAgg.mono : ∀ a0 a1 a2 a3 a4 a5 k, LeO (impl_GoodAgg.f k a0 a1 a2 a3 a4 a5) (impl_GoodAgg.f (k + 1) a0 a1 a2 a3 a4 a5) := by
 intro a0 a1 a2 a3 a4 a5 k
 obtain ⟨ih0, ih1, ih2, ih3⟩ := impl_GoodAgg.mono_l k
 unfold impl_GoodAgg.f
 exact moZ
set_option maxHeartbeats 8000000 in
set_option maxRecDepth 100000 in
theorem impl_GoodAgg.calls (k : Nat) (a0_0 : Int) (a0_1 : Int) (a0_2 : Int) (a0_3 : Int) (A0_4 : Option Addr) (c0_4 : Nat) (l0_4 : List Int) (a0_5 : Bool) (r : Bool) (w : World) (hr0_4 : Kd.C (Kd.int .i64) w A0_4 l0_4.length l0_4) (hc0_4 : l0_4.length ≤ c0_4) (h : impl_GoodAgg.f k a0_0 a0_1 a0_2 a0_3 l0_4 a0_5 = some r) :
 Calls Tryd.prog 91 #[.agg #[.int .i64 a0_0, .int .i64 a0_1, .int .i64 a0_2, .int .i64 a0_3, .slice A0_4 l0_4.length c0_4, .bool a0_5]] w fun e w' => e = .returned (.bool r) ∧ Below w.heap.size w w' := by
 have hu35 := Tryd.underlying35
 have HR0_4 := aM hr0_4
 have HC0_4 := aM hc0_4
 clear hr0_4 hc0_4
 have HB := aM (Below.refl w.heap.size w)
 have H : ((impl_within.f a0_0 0 1000000000).bind fun t102 => (if t102 = true then (impl_GoodAgg.j0 k ((l0_4.length : Int) != 8) a0_0 a0_1 a0_2 a0_3 l0_4 a0_5) else (impl_GoodAgg.j0 k true a0_0 a0_1 a0_2 a0_3 l0_4 a0_5))) = some r := h
 clear h
 have HC2 := aM H
 clear H
 go_enter Tryd.func91, Tryd.ntmps91
 go_upto_region 1 with (first | ((with_reducible refine gate_dst (N := 1) rfl ?_); (try (refine gate_guard (by rfl) ?_; dsimp only)); refine bX 1 35 #[.int .i64 a0_0, .int .i64 a0_1, .int .i64 a0_2, .int .i64 a0_3, .slice A0_4 l0_4.length c0_4, .bool a0_5] ?_; intro gb101 hg w3 hbox hb; have _ := aM (below_step hbZ hb); have _ := aM hbox; have _ := szZ hg; have _ := szZ hg; clear HB; rename_i HB BK101 GW101 GE101; clear hb hbox hg))
 (try simp only [Act.put, List.setIfInBounds_toArray, List.set_cons_zero, List.set_cons_succ])
 go_cut [15] (fun v15 wc => ∃ (kq : Nat) (x15_1 : Bool), v15 = .bool x15_1 ∧ Aside0 (impl_GoodAgg.j0 kq x15_1 a0_0 a0_1 a0_2 a0_3 l0_4 a0_5 = some r) ∧ Aside0 (kq ≤ k) ∧ Aside0 (wc.heap[gb101]? = some (.cells #[.int .i64 a0_0, .int .i64 a0_1, .int .i64 a0_2, .int .i64 a0_3, (.slice A0_4 l0_4.length c0_4), .bool a0_5] 35 (0, 0))) ∧ Aside0 (Below w.heap.size w wc))
 case first =>
  have H := HC2.out
  clear HC2
  obtain ⟨t102, A4, H⟩ := bS H; try dsimp only at H
  by_cases c5 : t102 = true
  · subst c5
    rw [if_pos rfl] at H
    have H' := aM H
    clear H
    have hz6 := cellsZ6 BK101.out
    go_wp2_with (first | ((with_reducible refine gate_callee (f := 90) rfl ?_); refine gL 8 Tryd.func90 #[.int .i64 a0_0, .int .i64 0, .int .i64 1000000000] ?_; (with_reducible refine (impl_within.calls a0_0 0 1000000000 true _ A4.out).mono ?_); rintro e w' ⟨rfl, ⟨nd, rfl⟩⟩; refine ⟨_, rfl, ?_⟩))
    go_meet
    case rel => exact ⟨_, (((l0_4.length : Int) != 8)), z4458, H', ⟨zb79b⟩, ⟨bkZ⟩, ⟨zcb41⟩⟩
  · replace c5 := Bool.eq_false_iff.mpr c5
    subst c5
    rw [if_neg (show ¬ (false = true) by decide)] at H
    have H' := aM H
    clear H
    have hz7 := cellsZ6 BK101.out
    go_wp2_with (first | ((with_reducible refine gate_callee (f := 90) rfl ?_); refine gL 8 Tryd.func90 #[.int .i64 a0_0, .int .i64 0, .int .i64 1000000000] ?_; (with_reducible refine (impl_within.calls a0_0 0 1000000000 false _ A4.out).mono ?_); rintro e w' ⟨rfl, ⟨nd, rfl⟩⟩; refine ⟨_, rfl, ?_⟩))
    go_meet
    case rel => exact ⟨_, (true), z4458, H', ⟨zb79b⟩, ⟨bkZ⟩, ⟨zcb41⟩⟩
 case rest =>
  clear HC2
  obtain ⟨kq, x15_1, rfl, HA, HJ1, BK101, HB⟩ := hcut
  cases kq with
  | zero => exact absurd HA.out (by simp [impl_GoodAgg.j0])
  | succ kj1 =>
   have H := HA.out
   clear HA
   simp only [impl_GoodAgg.j0] at H
   by_cases c8 : x15_1 = true
   · subst c8
     rw [if_pos rfl] at H
     obtain rfl := Option.some.inj H
     go_wp2
     go_ret
     exact ⟨z674d, zcb41⟩
   · replace c8 := Bool.eq_false_iff.mpr c8
     subst c8
     rw [if_neg (show ¬ (false = true) by decide)] at H
     have H' := aM H
     clear H
     have hz9 := cellsZ6 BK101.out
     go_wp2
     go_loopg [3, 19] kj1 (fun kq v3 v19 w' => ∃ (x3_2 : Int) (x19_2 : Int), v3 = .int .i64 x3_2 ∧ v19 = .int .i64 x19_2 ∧ Aside0 (impl_GoodAgg.l0 kq x3_2 l0_4 (l0_4.length : Int) x19_2 a0_0 a0_1 a0_2 a0_3 l0_4 a0_5 = some r) ∧ Aside0 (kq ≤ kj1) ∧ Aside0 (w'.heap[gb101]? = some (.cells #[.int .i64 a0_0, .int .i64 a0_1, .int .i64 a0_2, .int .i64 a0_3, (.slice A0_4 l0_4.length c0_4), .bool a0_5] 35 (0, 0))) ∧ Aside0 (Below w.heap.size w w'))
     case atStart => exact ⟨(0), (0), z4458, z4458, H', ⟨Nat.le_refl _⟩, ⟨bkZ⟩, ⟨zcb41⟩⟩
     case round =>
      clear H'
      (try clear c8); (try clear hz9)
      obtain ⟨x3_2, x19_2, rfl, rfl, HA, HK2, BK101, HB⟩ := hrel
      cases gk with
      | zero => exact absurd HA.out (by simp [impl_GoodAgg.l0])
      | succ k2 =>
       have H := HA.out
       clear HA
       simp only [impl_GoodAgg.l0] at H
       by_cases c10 : x19_2 < (l0_4.length : Int)
       · rw [if_pos c10] at H
         have c10b0 := dL c10
         clear c10
         obtain ⟨c11b0, H⟩ := sE H
         obtain ⟨c12b0, H⟩ := sL H
         obtain ⟨t104, A13, H⟩ := bS H; try dsimp only at H
         by_cases c14 : t104 = true
         · subst c14
           rw [if_pos rfl] at H
           have H' := aM H
           clear H
           have p103 : 0 ≤ (x19_2 : Int) := of_decide_eq_true z1200
           have q103 : x19_2 < (l0_4.length : Int) := of_decide_eq_true z1200
           obtain ⟨ad103, e103, hx103_0⟩ := Kd.at_int HR0_4.out x19_2 p103 q103
           cases e103
           replace hx103_0 := (HB.out.cell (World.block_lt_of_cell? w _ hx103_0)).trans hx103_0
           replace p103 := eq_true p103
           replace q103 := eq_true q103
           go_wp2_with (first | ((with_reducible refine gate_callee (f := 90) rfl ?_); refine gL 24 Tryd.func90 #[.int .i64 (rd l0_4 x19_2), .int .i64 0, .int .i64 1000000000] ?_; (with_reducible refine (impl_within.calls (rd l0_4 x19_2) 0 1000000000 true _ A13.out).mono ?_); rintro e w' ⟨rfl, ⟨nd, rfl⟩⟩; refine ⟨_, rfl, ?_⟩))
           go_roundg k2
           case measure => have := HJ1.out; have := HK2.out; omega
           case rel => exact ⟨(wrap64 (x3_2 + (rd l0_4 x19_2))), (wrap64 (x19_2 + 1)), z4458, z4458, H', ⟨by have := HJ1.out; have := HK2.out; omega⟩, ⟨bkZ⟩, ⟨zcb41⟩⟩
         · replace c14 := Bool.eq_false_iff.mpr c14
           subst c14
           rw [if_neg (show ¬ (false = true) by decide)] at H
           obtain rfl := Option.some.inj H
           have p103 : 0 ≤ (x19_2 : Int) := of_decide_eq_true z1200
           have q103 : x19_2 < (l0_4.length : Int) := of_decide_eq_true z1200
           obtain ⟨ad103, e103, hx103_0⟩ := Kd.at_int HR0_4.out x19_2 p103 q103
           cases e103
           replace hx103_0 := (HB.out.cell (World.block_lt_of_cell? w _ hx103_0)).trans hx103_0
           replace p103 := eq_true p103
           replace q103 := eq_true q103
           go_wp2_with (first | ((with_reducible refine gate_callee (f := 90) rfl ?_); refine gL 24 Tryd.func90 #[.int .i64 (rd l0_4 x19_2), .int .i64 0, .int .i64 1000000000] ?_; (with_reducible refine (impl_within.calls (rd l0_4 x19_2) 0 1000000000 false _ A13.out).mono ?_); rintro e w' ⟨rfl, ⟨nd, rfl⟩⟩; refine ⟨_, rfl, ?_⟩))
           go_ret
           exact ⟨z674d, zcb41⟩
       · rw [if_neg c10] at H
         have c10b0 := nL c10
         clear c10
         have HC15 := aM H
         clear H
         go_upto_region 11 with (fail)
         go_cut [30] (fun v30 wc => ∃ (kq : Nat) (x30_14 : Bool), v30 = .bool x30_14 ∧ Aside0 (impl_GoodAgg.j2 kq x3_2 x30_14 a0_0 a0_1 a0_2 a0_3 l0_4 a0_5 = some r) ∧ Aside0 (kq ≤ k2) ∧ Aside0 (wc.heap[gb101]? = some (.cells #[.int .i64 a0_0, .int .i64 a0_1, .int .i64 a0_2, .int .i64 a0_3, (.slice A0_4 l0_4.length c0_4), .bool a0_5] 35 (0, 0))) ∧ Aside0 (Below w.heap.size w wc))
         case first =>
          have H := HC15.out
          clear HC15
          by_cases c16 : a0_5 = true
          · subst c16
            rw [if_pos rfl] at H
            have H' := aM H
            clear H
            have hz17 := cellsZ6 BK101.out
            go_wp2
            go_meet
            case rel => exact ⟨_, ((a0_1 != 0)), z4458, H', ⟨zdc19⟩, ⟨bkZ⟩, ⟨zcb41⟩⟩
          · replace c16 := Bool.eq_false_iff.mpr c16
            subst c16
            rw [if_neg (show ¬ (false = true) by decide)] at H
            have H' := aM H
            clear H
            have hz18 := cellsZ6 BK101.out
            go_wp2
            go_meet
            case rel => exact ⟨_, (false), z4458, H', ⟨zdc19⟩, ⟨bkZ⟩, ⟨zcb41⟩⟩
         case rest =>
          clear HC15
          (try clear c10b0)
          obtain ⟨kq, x30_14, rfl, HA, HJ14, BK101, HB⟩ := hcut
          cases kq with
          | zero => exact absurd HA.out (by simp [impl_GoodAgg.j2])
          | succ kj14 =>
           have H := HA.out
           clear HA
           simp only [impl_GoodAgg.j2] at H
           by_cases c19 : x30_14 = true
           · subst c19
             rw [if_pos rfl] at H
             obtain rfl := Option.some.inj H
             go_wp2
             go_ret
             exact ⟨z674d, zcb41⟩
           · replace c19 := Bool.eq_false_iff.mpr c19
             subst c19
             rw [if_neg (show ¬ (false = true) by decide)] at H
             have HC20 := aM H
             clear H
             go_upto_region 13 with (fail)
             go_cut [38] (fun v38 wc => ∃ (kq : Nat) (x38_19 : Bool), v38 = .bool x38_19 ∧ Aside0 (impl_GoodAgg.j3 kq x3_2 x38_19 a0_0 a0_1 a0_2 a0_3 l0_4 a0_5 = some r) ∧ Aside0 (kq ≤ kj14) ∧ Aside0 (wc.heap[gb101]? = some (.cells #[.int .i64 a0_0, .int .i64 a0_1, .int .i64 a0_2, .int .i64 a0_3, (.slice A0_4 l0_4.length c0_4), .bool a0_5] 35 (0, 0))) ∧ Aside0 (Below w.heap.size w wc))
             case first =>
              have H := HC20.out
              clear HC20
              by_cases c21 : a0_5 = true
              · subst c21
                rw [if_pos rfl] at H
                have H' := aM H
                clear H
                have hz22 := cellsZ6 BK101.out
                go_wp2
                go_meet
                case rel => exact ⟨_, (false), z4458, H', ⟨by have := HJ1.out; have := HK2.out; have := HJ14.out; first | omega | exact Nat.le_refl _⟩, ⟨bkZ⟩, ⟨zcb41⟩⟩
              · replace c21 := Bool.eq_false_iff.mpr c21
                subst c21
                rw [if_neg (show ¬ (false = true) by decide)] at H
                by_cases c23 : x3_2 = a0_0
                · rw [if_pos c23] at H
                  have c23b0 : (x3_2 == a0_0) = true := beq_iff_eq.mpr c23
                  have c23b1 : (x3_2 != a0_0) = false := bne_eq_false_iff_eq.mpr c23
                  clear c23
                  (first | rw [c23b0] | (simp only [i64_w, i32_w]; rw [c23b0]) | skip)
                  obtain ⟨t105, A24, H⟩ := bS H; try dsimp only at H
                  have H' := aM H
                  clear H
                  have hz25 := cellsZ6 BK101.out
                  go_wp2_with (first | (go_at_call 90; (with_reducible refine (impl_within.calls a0_1 (wrap64 ((-1000000000) * a0_0)) (wrap64 (1000000000 * a0_0)) t105 _ A24.out).mono ?_); rintro e w' ⟨rfl, ⟨nd, rfl⟩⟩))
                  go_meet
                  case rel => exact ⟨_, (!t105), z4458, H', ⟨by have := HJ1.out; have := HK2.out; have := HJ14.out; first | omega | exact Nat.le_refl _⟩, ⟨bkZ⟩, ⟨zcb41⟩⟩
                · rw [if_neg c23] at H
                  have c23b0 : (x3_2 == a0_0) = false := beq_eq_false_iff_ne.mpr c23
                  have c23b1 : (x3_2 != a0_0) = true := bne_iff_ne.mpr c23
                  (first | rw [c23b0] | (simp only [i64_w, i32_w]; rw [c23b0]) | skip)
                  have H' := aM H
                  clear H
                  have hz26 := cellsZ6 BK101.out
                  go_wp2
                  go_meet
                  case rel => exact ⟨_, (true), z4458, H', ⟨by have := HJ1.out; have := HK2.out; have := HJ14.out; first | omega | exact Nat.le_refl _⟩, ⟨bkZ⟩, ⟨zcb41⟩⟩
             case rest =>
              clear HC20
              (try clear c19)
              obtain ⟨kq, x38_19, rfl, HA, HJ19, BK101, HB⟩ := hcut
              cases kq with
              | zero => exact absurd HA.out (by simp [impl_GoodAgg.j3])
              | succ kj19 =>
               have H := HA.out
               clear HA
               simp only [impl_GoodAgg.j3] at H
               by_cases c27 : x38_19 = true
               · subst c27
                 rw [if_pos rfl] at H
                 obtain rfl := Option.some.inj H
                 go_wp2
                 go_ret
                 exact ⟨z674d, zcb41⟩
               · replace c27 := Bool.eq_false_iff.mpr c27
                 subst c27
                 rw [if_neg (show ¬ (false = true) by decide)] at H
                 by_cases c28 : a0_0 = 0
                 · rw [if_pos c28] at H
                   have c28b0 : (a0_0 == 0) = true := beq_iff_eq.mpr c28
                   have c28b1 : (a0_0 != 0) = false := bne_eq_false_iff_eq.mpr c28
                   clear c28
                   by_cases c29 : a0_2 = 0
                   · rw [if_pos c29] at H
                     have c29b0 : (a0_2 == 0) = true := beq_iff_eq.mpr c29
                     have c29b1 : (a0_2 != 0) = false := bne_eq_false_iff_eq.mpr c29
                     clear c29
                     by_cases c30 : a0_3 = 0
                     · rw [if_pos c30] at H
                       have c30b0 : (a0_3 == 0) = true := beq_iff_eq.mpr c30
                       have c30b1 : (a0_3 != 0) = false := bne_eq_false_iff_eq.mpr c30
                       clear c30
                       by_cases c31 : x3_2 = 0
                       · rw [if_pos c31] at H
                         have c31b0 : (x3_2 == 0) = true := beq_iff_eq.mpr c31
                         have c31b1 : (x3_2 != 0) = false := bne_eq_false_iff_eq.mpr c31
                         clear c31
                         obtain rfl := Option.some.inj H
                         have hz32 := cellsZ6 BK101.out
                         go_wp2
                         go_ret
                         exact ⟨z674d, zcb41⟩
                       · rw [if_neg c31] at H
                         have c31b0 := eqN c31
                         obtain rfl := Option.some.inj H
                         have hz33 := cellsZ6 BK101.out
                         go_wp2
                         go_ret
                         exact ⟨z674d, zcb41⟩
                     · rw [if_neg c30] at H
                       have c30b0 := eqN c30
                       obtain rfl := Option.some.inj H
                       have hz34 := cellsZ6 BK101.out
                       go_wp2
                       go_ret
                       exact ⟨z674d, zcb41⟩
                   · rw [if_neg c29] at H
                     have c29b0 := eqN c29
                     obtain rfl := Option.some.inj H
                     have hz35 := cellsZ6 BK101.out
                     go_wp2
                     go_ret
                     exact ⟨z674d, zcb41⟩
                 · rw [if_neg c28] at H
                   have c28b0 := eqN c28
                   obtain ⟨t106, A36, H⟩ := bS H; try dsimp only at H
                   by_cases c37 : t106 = true
                   · subst c37
                     rw [if_pos rfl] at H
                     obtain ⟨t107, A38, H⟩ := bS H; try dsimp only at H
                     by_cases c39 : t107 = true
                     · subst c39
                       rw [if_pos rfl] at H
                       obtain rfl := Option.some.inj H
                       have hz40 := cellsZ6 BK101.out
                       go_wp2_with (first | ((with_reducible refine gate_callee (f := 111) rfl ?_); refine gL 83 Tryd.func111 #[.int .i64 a0_2] ?_; (with_reducible refine (impl_isValue.calls a0_2 true _ A36.out).mono ?_); rintro e w' ⟨rfl, ⟨nd, rfl⟩⟩; refine ⟨_, rfl, ?_⟩) | (go_at_call 111; (with_reducible refine (impl_isValue.calls a0_3 true _ A38.out).mono ?_); rintro e w' ⟨rfl, ⟨nd, rfl⟩⟩))
                       go_ret
                       exact ⟨z674d, zcb41⟩
                     · replace c39 := Bool.eq_false_iff.mpr c39
                       subst c39
                       rw [if_neg (show ¬ (false = true) by decide)] at H
                       obtain rfl := Option.some.inj H
                       have hz41 := cellsZ6 BK101.out
                       go_wp2_with (first | ((with_reducible refine gate_callee (f := 111) rfl ?_); refine gL 83 Tryd.func111 #[.int .i64 a0_2] ?_; (with_reducible refine (impl_isValue.calls a0_2 true _ A36.out).mono ?_); rintro e w' ⟨rfl, ⟨nd, rfl⟩⟩; refine ⟨_, rfl, ?_⟩) | (go_at_call 111; (with_reducible refine (impl_isValue.calls a0_3 false _ A38.out).mono ?_); rintro e w' ⟨rfl, ⟨nd, rfl⟩⟩))
                       go_ret
                       exact ⟨z674d, zcb41⟩
                   · replace c37 := Bool.eq_false_iff.mpr c37
                     subst c37
                     rw [if_neg (show ¬ (false = true) by decide)] at H
                     obtain rfl := Option.some.inj H
                     have hz42 := cellsZ6 BK101.out
                     go_wp2_with (first | ((with_reducible refine gate_callee (f := 111) rfl ?_); refine gL 83 Tryd.func111 #[.int .i64 a0_2] ?_; (with_reducible refine (impl_isValue.calls a0_2 false _ A36.out).mono ?_); rintro e w' ⟨rfl, ⟨nd, rfl⟩⟩; refine ⟨_, rfl, ?_⟩))
                     go_ret
                     exact ⟨z674d, zcb41⟩

end Go.Proofs.YtkgmoajdcibafaaDoor.P

-- written by a program of this session's (wip/pp)
namespace Go.Proofs.YtkgmoajdcibafaaDoor.P
open Go.RowKit Go.Proofs.YtkgmoajdcibafaaDoorW.PrintWords Go.Proofs.YtkgmoajdcibafaaDoorW.PrintLast Go.Proofs.YtkgmoajdcibafaaDoorW.PrintMore
attribute [local go_sem] max2_int min2_int max_two min_two max_three min_three max_four min_four str_geq str_gtr str_leq   -- for this text's walks alone
set_option linter.unusedVariables false
set_option linter.unusedSimpArgs false

/-! ### impl_GoodBoard: function 46 -/
mutual
def impl_GoodBoard.j0 : Nat → Bool → Int → Int → Int → List (S37) → Option (Bool)
 | 0, _, _, _, _, _ => none
 | k + 1, x26, x102000, x102001, x102002, x102003 => if x26 = true then (some false) else (impl_GoodBoard.l0 k x102003 (x102003.length : Int) 0 x102000 x102001 x102002 x102003)
def impl_GoodBoard.l0 : Nat → List (S37) → Int → Int → Int → Int → Int → List (S37) → Option (Bool)
 | 0, _, _, _, _, _, _, _ => none
 | k + 1, x28, x29, x30, x102000, x102001, x102002, x102003 => if x30 < x29 then (if 0 ≤ x30 then (if x30 < (x28.length : Int) then ((impl_GoodKey.f k ((rd_T37 x28 x30).f0.f0) ((rd_T37 x28 x30).f0.f1) ((rd_T37 x28 x30).f0.f2)).bind fun t107 => (if t107 = true then (if x102000 = 0 then (none) else (if (Int.tmod ((rd_T37 x28 x30).f0.f2) x102000) = 0 then ((impl_GoodAgg.f k ((rd_T37 x28 x30).f1.f0) ((rd_T37 x28 x30).f1.f1) ((rd_T37 x28 x30).f1.f2) ((rd_T37 x28 x30).f1.f3) ((rd_T37 x28 x30).f1.f4) ((rd_T37 x28 x30).f1.f5)).bind fun t108 => (if t108 = true then (if ((rd_T37 x28 x30).f1.f0) = 0 then (impl_GoodBoard.j2 k x30 x28 x29 x30 true x102000 x102001 x102002 x102003 ((rd_T37 x28 x30).f0.f0) ((rd_T37 x28 x30).f0.f1) ((rd_T37 x28 x30).f0.f2) ((rd_T37 x28 x30).f1.f0) ((rd_T37 x28 x30).f1.f1) ((rd_T37 x28 x30).f1.f2) ((rd_T37 x28 x30).f1.f3) ((rd_T37 x28 x30).f1.f4) ((rd_T37 x28 x30).f1.f5) ((rd_T37 x28 x30).f2) ((rd_T37 x28 x30).f3)) else ((impl_within.f ((rd_T37 x28 x30).f2) 0 1000000).bind fun t109 => (if t109 = true then (if ((rd_T37 x28 x30).f2) = 0 then (impl_GoodBoard.j2 k x30 x28 x29 x30 (!((rd_T37 x28 x30).f3)) x102000 x102001 x102002 x102003 ((rd_T37 x28 x30).f0.f0) ((rd_T37 x28 x30).f0.f1) ((rd_T37 x28 x30).f0.f2) ((rd_T37 x28 x30).f1.f0) ((rd_T37 x28 x30).f1.f1) ((rd_T37 x28 x30).f1.f2) ((rd_T37 x28 x30).f1.f3) ((rd_T37 x28 x30).f1.f4) ((rd_T37 x28 x30).f1.f5) ((rd_T37 x28 x30).f2) ((rd_T37 x28 x30).f3)) else (impl_GoodBoard.j2 k x30 x28 x29 x30 false x102000 x102001 x102002 x102003 ((rd_T37 x28 x30).f0.f0) ((rd_T37 x28 x30).f0.f1) ((rd_T37 x28 x30).f0.f2) ((rd_T37 x28 x30).f1.f0) ((rd_T37 x28 x30).f1.f1) ((rd_T37 x28 x30).f1.f2) ((rd_T37 x28 x30).f1.f3) ((rd_T37 x28 x30).f1.f4) ((rd_T37 x28 x30).f1.f5) ((rd_T37 x28 x30).f2) ((rd_T37 x28 x30).f3))) else (impl_GoodBoard.j2 k x30 x28 x29 x30 true x102000 x102001 x102002 x102003 ((rd_T37 x28 x30).f0.f0) ((rd_T37 x28 x30).f0.f1) ((rd_T37 x28 x30).f0.f2) ((rd_T37 x28 x30).f1.f0) ((rd_T37 x28 x30).f1.f1) ((rd_T37 x28 x30).f1.f2) ((rd_T37 x28 x30).f1.f3) ((rd_T37 x28 x30).f1.f4) ((rd_T37 x28 x30).f1.f5) ((rd_T37 x28 x30).f2) ((rd_T37 x28 x30).f3))))) else (impl_GoodBoard.j2 k x30 x28 x29 x30 true x102000 x102001 x102002 x102003 ((rd_T37 x28 x30).f0.f0) ((rd_T37 x28 x30).f0.f1) ((rd_T37 x28 x30).f0.f2) ((rd_T37 x28 x30).f1.f0) ((rd_T37 x28 x30).f1.f1) ((rd_T37 x28 x30).f1.f2) ((rd_T37 x28 x30).f1.f3) ((rd_T37 x28 x30).f1.f4) ((rd_T37 x28 x30).f1.f5) ((rd_T37 x28 x30).f2) ((rd_T37 x28 x30).f3)))) else (impl_GoodBoard.j2 k x30 x28 x29 x30 true x102000 x102001 x102002 x102003 ((rd_T37 x28 x30).f0.f0) ((rd_T37 x28 x30).f0.f1) ((rd_T37 x28 x30).f0.f2) ((rd_T37 x28 x30).f1.f0) ((rd_T37 x28 x30).f1.f1) ((rd_T37 x28 x30).f1.f2) ((rd_T37 x28 x30).f1.f3) ((rd_T37 x28 x30).f1.f4) ((rd_T37 x28 x30).f1.f5) ((rd_T37 x28 x30).f2) ((rd_T37 x28 x30).f3)))) else (impl_GoodBoard.j2 k x30 x28 x29 x30 true x102000 x102001 x102002 x102003 ((rd_T37 x28 x30).f0.f0) ((rd_T37 x28 x30).f0.f1) ((rd_T37 x28 x30).f0.f2) ((rd_T37 x28 x30).f1.f0) ((rd_T37 x28 x30).f1.f1) ((rd_T37 x28 x30).f1.f2) ((rd_T37 x28 x30).f1.f3) ((rd_T37 x28 x30).f1.f4) ((rd_T37 x28 x30).f1.f5) ((rd_T37 x28 x30).f2) ((rd_T37 x28 x30).f3)))) else (none)) else (none)) else (some true)
def impl_GoodBoard.j2 : Nat → Int → List (S37) → Int → Int → Bool → Int → Int → Int → List (S37) → ByteArray → List (S123) → Int → Int → Int → Int → Int → List Int → Bool → Int → Bool → Option (Bool)
 | 0, _, _, _, _, _, _, _, _, _, _, _, _, _, _, _, _, _, _, _, _ => none
 | k + 1, x3, x28, x29, x30, x75, x102000, x102001, x102002, x102003, x107000, x107001, x107002, x107003, x107004, x107005, x107006, x107007, x107008, x107009, x107010 => if x75 = true then (some false) else (if x3 > 0 then (if 0 ≤ (wrap64 (x3 - 1)) then (if (wrap64 (x3 - 1)) < (x102003.length : Int) then ((impl_CompareKeys.f k ((rd_T37 x102003 (wrap64 (x3 - 1))).f0.f0) ((rd_T37 x102003 (wrap64 (x3 - 1))).f0.f1) ((rd_T37 x102003 (wrap64 (x3 - 1))).f0.f2) x107000 x107001 x107002).bind fun t111 => (if t111 ≥ 0 then (some false) else (impl_GoodBoard.l0 k x28 x29 (wrap64 (x30 + 1)) x102000 x102001 x102002 x102003))) else (none)) else (none)) else (impl_GoodBoard.l0 k x28 x29 (wrap64 (x30 + 1)) x102000 x102001 x102002 x102003))
end
def impl_GoodBoard.f (k : Nat) (a0_0 : Int) (a0_1 : Int) (a0_2 : Int) (l0_3 : List (S37)) : Option (Bool) := (impl_isSize.f a0_0).bind fun t102 => (if t102 = true then ((impl_within.f a0_1 0 1000000).bind fun t103 => (if t103 = true then ((impl_isTime.f a0_2).bind fun t104 => (if t104 = true then (impl_GoodBoard.j0 k (decide ((l0_3.length : Int) > 40)) a0_0 a0_1 a0_2 l0_3) else (impl_GoodBoard.j0 k true a0_0 a0_1 a0_2 l0_3))) else (impl_GoodBoard.j0 k true a0_0 a0_1 a0_2 l0_3))) else (impl_GoodBoard.j0 k true a0_0 a0_1 a0_2 l0_3))
theorem impl_GoodBoard.mono_l : ∀ k, (∀ y0 y1 y2 y3 y4, LeO (impl_GoodBoard.j0 k y0 y1 y2 y3 y4) (impl_GoodBoard.j0 (k + 1) y0 y1 y2 y3 y4)) ∧ (∀ y0 y1 y2 y3 y4 y5 y6, LeO (impl_GoodBoard.l0 k y0 y1 y2 y3 y4 y5 y6) (impl_GoodBoard.l0 (k + 1) y0 y1 y2 y3 y4 y5 y6)) ∧ (∀ y0 y1 y2 y3 y4 y5 y6 y7 y8 y9 y10 y11 y12 y13 y14 y15 y16 y17 y18 y19, LeO (impl_GoodBoard.j2 k y0 y1 y2 y3 y4 y5 y6 y7 y8 y9 y10 y11 y12 y13 y14 y15 y16 y17 y18 y19) (impl_GoodBoard.j2 (k + 1) y0 y1 y2 y3 y4 y5 y6 y7 y8 y9 y10 y11 y12 y13 y14 y15 y16 y17 y18 y19))
 | 0 => ⟨fun _ _ _ _ _ r h => by simp [impl_GoodBoard.j0] at h, fun _ _ _ _ _ _ _ r h => by simp [impl_GoodBoard.l0] at h, fun _ _ _ _ _ _ _ _ _ _ _ _ _ _ _ _ _ _ _ _ r h => by simp [impl_GoodBoard.j2] at h⟩
 | k + 1 => by
  obtain ⟨ih0, ih1, ih2⟩ := impl_GoodBoard.mono_l k; have m0 := @impl_CompareKeys.mono; have m1 := @impl_GoodAgg.mono; have m2 := @impl_GoodKey.mono
  refine ⟨?_, ?_, ?_⟩
  · intro y0 y1 y2 y3 y4
    unfold impl_GoodBoard.j0
    exact moZ
  · intro y0 y1 y2 y3 y4 y5 y6
    unfold impl_GoodBoard.l0
    exact moZ
  · intro y0 y1 y2 y3 y4 y5 y6 y7 y8 y9 y10 y11 y12 y13 y14 y15 y16 y17 y18 y19
    unfold impl_GoodBoard.j2
    exact moZ
theorem impl_GoodBoard.mono : ∀ a0 a1 a2 a3 k, LeO (impl_GoodBoard.f k a0 a1 a2 a3) (impl_GoodBoard.f (k + 1) a0 a1 a2 a3) := by
 intro a0 a1 a2 a3 k
 obtain ⟨ih0, ih1, ih2⟩ := impl_GoodBoard.mono_l k
 have m0 := @impl_CompareKeys.mono; have m1 := @impl_GoodAgg.mono; have m2 := @impl_GoodKey.mono
 unfold impl_GoodBoard.f
 exact moZ
def impl_GoodBoard.T8 : Bool × List (List Nat × List Nat) := (true, [([], []), ([0], [0]), ([1], [1]), ([2], [2]), ([3, 2], [2, 3]), ([2], [2]), ([5, 2], [2, 5]), ([4, 6, 2], [2, 4, 6]), ([7, 2], [2, 7]), ([8, 2], [2, 8]), ([2], [2]), ([10, 2], [2, 10]), ([9, 11, 2, 2], [2, 9, 11]), ([12, 2], [2, 12]), ([2, 13], [2, 13])])
def impl_GoodBoard.B8 : List Nat := [0, 1, 3, 7, 15, 7, 39, 127, 255, 511, 7, 1031, 4095, 8191, 16383]
theorem impl_GoodBoard.tab8 : rtab .any (opsOf Tryd.f46 8) = impl_GoodBoard.T8 := by kernel_rfl
theorem impl_GoodBoard.bits8 : waitsOk impl_GoodBoard.T8.2 impl_GoodBoard.B8 = true := by kernel_rfl
set_option maxHeartbeats 8000000 in
set_option maxRecDepth 100000 in
theorem impl_GoodBoard.calls (k : Nat) (a0_0 : Int) (a0_1 : Int) (a0_2 : Int) (A0_3 : Option Addr) (c0_3 : Nat) (l0_3 : List (S37)) (r : Bool) (w : World) (hr0_3 : Kd.C k37 w A0_3 l0_3.length l0_3) (hc0_3 : l0_3.length ≤ c0_3) (h : impl_GoodBoard.f k a0_0 a0_1 a0_2 l0_3 = some r) :
 Calls Tryd.prog 46 #[.agg #[.int .i64 a0_0, .int .i64 a0_1, .int .i64 a0_2, .slice A0_3 l0_3.length c0_3]] w fun e w' => e = .returned (.bool r) ∧ Below w.heap.size w w' := by
 have hu42 := Tryd.underlying42
 have hu37 := Tryd.underlying37
 have hu32 := Tryd.underlying32
 have hu35 := Tryd.underlying35
 have HR0_3 := aM hr0_3
 have HC0_3 := aM hc0_3
 clear hr0_3 hc0_3
 have HB := aM (Below.refl w.heap.size w)
 have H : ((impl_isSize.f a0_0).bind fun t102 => (if t102 = true then ((impl_within.f a0_1 0 1000000).bind fun t103 => (if t103 = true then ((impl_isTime.f a0_2).bind fun t104 => (if t104 = true then (impl_GoodBoard.j0 k (decide ((l0_3.length : Int) > 40)) a0_0 a0_1 a0_2 l0_3) else (impl_GoodBoard.j0 k true a0_0 a0_1 a0_2 l0_3))) else (impl_GoodBoard.j0 k true a0_0 a0_1 a0_2 l0_3))) else (impl_GoodBoard.j0 k true a0_0 a0_1 a0_2 l0_3))) = some r := h
 clear h
 have HC2 := aM H
 clear H
 go_enter Tryd.func46, Tryd.ntmps46
 go_upto_region 1 with (first | ((with_reducible refine gate_dst (N := 1) rfl ?_); (try (refine gate_guard (by rfl) ?_; dsimp only)); refine bX 1 42 #[.int .i64 a0_0, .int .i64 a0_1, .int .i64 a0_2, .slice A0_3 l0_3.length c0_3] ?_; intro gb101 hg w3 hbox hb; have _ := aM (below_step hbZ hb); have _ := aM hbox; have _ := szZ hg; have _ := szZ hg; clear HB; rename_i HB BK101 GW101 GE101; clear hb hbox hg))
 (try simp only [Act.put, List.setIfInBounds_toArray, List.set_cons_zero, List.set_cons_succ])
 go_cut [26] (fun v26 wc => ∃ (kq : Nat) (x26_1 : Bool), v26 = .bool x26_1 ∧ Aside0 (impl_GoodBoard.j0 kq x26_1 a0_0 a0_1 a0_2 l0_3 = some r) ∧ Aside0 (kq ≤ k) ∧ Aside0 (wc.heap[gb101]? = some (.cells #[.int .i64 a0_0, .int .i64 a0_1, .int .i64 a0_2, (.slice A0_3 l0_3.length c0_3)] 42 (0, 0))) ∧ Aside0 (Below w.heap.size w wc))
 case first =>
  have H := HC2.out
  clear HC2
  obtain ⟨t102, A4, H⟩ := bS H; try dsimp only at H
  by_cases c5 : t102 = true
  · subst c5
    rw [if_pos rfl] at H
    obtain ⟨t103, A6, H⟩ := bS H; try dsimp only at H
    by_cases c7 : t103 = true
    · subst c7
      rw [if_pos rfl] at H
      obtain ⟨t104, A8, H⟩ := bS H; try dsimp only at H
      by_cases c9 : t104 = true
      · subst c9
        rw [if_pos rfl] at H
        have H' := aM H
        clear H
        have hz10 := cellsZ4 BK101.out
        go_wp2_with (first | ((with_reducible refine gate_callee (f := 89) rfl ?_); refine gL 7 Tryd.func89 #[.int .i64 a0_0] ?_; (with_reducible refine (impl_isSize.calls a0_0 true _ A4.out).mono ?_); rintro e w' ⟨rfl, ⟨nd, rfl⟩⟩; refine ⟨_, rfl, ?_⟩) | (go_at_call 90; (with_reducible refine (impl_within.calls a0_1 0 1000000 true _ A6.out).mono ?_); rintro e w' ⟨rfl, ⟨nd, rfl⟩⟩) | (go_at_call 60; (with_reducible refine (impl_isTime.calls a0_2 true _ A8.out).mono ?_); rintro e w' ⟨rfl, ⟨nd, rfl⟩⟩))
        go_meet
        case rel => exact ⟨_, (decide ((l0_3.length : Int) > 40)), z4458, H', ⟨zb79b⟩, ⟨bkZ⟩, ⟨zcb41⟩⟩
      · replace c9 := Bool.eq_false_iff.mpr c9
        subst c9
        rw [if_neg (show ¬ (false = true) by decide)] at H
        have H' := aM H
        clear H
        have hz11 := cellsZ4 BK101.out
        go_wp2_with (first | ((with_reducible refine gate_callee (f := 89) rfl ?_); refine gL 7 Tryd.func89 #[.int .i64 a0_0] ?_; (with_reducible refine (impl_isSize.calls a0_0 true _ A4.out).mono ?_); rintro e w' ⟨rfl, ⟨nd, rfl⟩⟩; refine ⟨_, rfl, ?_⟩) | (go_at_call 90; (with_reducible refine (impl_within.calls a0_1 0 1000000 true _ A6.out).mono ?_); rintro e w' ⟨rfl, ⟨nd, rfl⟩⟩) | (go_at_call 60; (with_reducible refine (impl_isTime.calls a0_2 false _ A8.out).mono ?_); rintro e w' ⟨rfl, ⟨nd, rfl⟩⟩))
        go_meet
        case rel => exact ⟨_, (true), z4458, H', ⟨zb79b⟩, ⟨bkZ⟩, ⟨zcb41⟩⟩
    · replace c7 := Bool.eq_false_iff.mpr c7
      subst c7
      rw [if_neg (show ¬ (false = true) by decide)] at H
      have H' := aM H
      clear H
      have hz12 := cellsZ4 BK101.out
      go_wp2_with (first | ((with_reducible refine gate_callee (f := 89) rfl ?_); refine gL 7 Tryd.func89 #[.int .i64 a0_0] ?_; (with_reducible refine (impl_isSize.calls a0_0 true _ A4.out).mono ?_); rintro e w' ⟨rfl, ⟨nd, rfl⟩⟩; refine ⟨_, rfl, ?_⟩) | (go_at_call 90; (with_reducible refine (impl_within.calls a0_1 0 1000000 false _ A6.out).mono ?_); rintro e w' ⟨rfl, ⟨nd, rfl⟩⟩))
      go_meet
      case rel => exact ⟨_, (true), z4458, H', ⟨zb79b⟩, ⟨bkZ⟩, ⟨zcb41⟩⟩
  · replace c5 := Bool.eq_false_iff.mpr c5
    subst c5
    rw [if_neg (show ¬ (false = true) by decide)] at H
    have H' := aM H
    clear H
    have hz13 := cellsZ4 BK101.out
    go_wp2_with (first | ((with_reducible refine gate_callee (f := 89) rfl ?_); refine gL 7 Tryd.func89 #[.int .i64 a0_0] ?_; (with_reducible refine (impl_isSize.calls a0_0 false _ A4.out).mono ?_); rintro e w' ⟨rfl, ⟨nd, rfl⟩⟩; refine ⟨_, rfl, ?_⟩))
    go_meet
    case rel => exact ⟨_, (true), z4458, H', ⟨zb79b⟩, ⟨bkZ⟩, ⟨zcb41⟩⟩
 case rest =>
  clear HC2
  obtain ⟨kq, x26_1, rfl, HA, HJ1, BK101, HB⟩ := hcut
  cases kq with
  | zero => exact absurd HA.out (by simp [impl_GoodBoard.j0])
  | succ kj1 =>
   have H := HA.out
   clear HA
   simp only [impl_GoodBoard.j0] at H
   by_cases c14 : x26_1 = true
   · subst c14
     rw [if_pos rfl] at H
     obtain rfl := Option.some.inj H
     go_wp2
     go_ret
     exact ⟨z674d, zcb41⟩
   · replace c14 := Bool.eq_false_iff.mpr c14
     subst c14
     rw [if_neg (show ¬ (false = true) by decide)] at H
     have H' := aM H
     clear H
     have hz15 := cellsZ4 BK101.out
     go_wp2
     go_loopg [30] kj1 (fun kq v30 w' => ∃ (x30_2 : Int), v30 = .int .i64 x30_2 ∧ Aside0 (impl_GoodBoard.l0 kq l0_3 (l0_3.length : Int) x30_2 a0_0 a0_1 a0_2 l0_3 = some r) ∧ Aside0 (kq ≤ kj1) ∧ Aside0 (w'.heap[gb101]? = some (.cells #[.int .i64 a0_0, .int .i64 a0_1, .int .i64 a0_2, (.slice A0_3 l0_3.length c0_3)] 42 (0, 0))) ∧ Aside0 (Below w.heap.size w w'))
     case atStart => exact ⟨(0), z4458, H', ⟨Nat.le_refl _⟩, ⟨bkZ⟩, ⟨zcb41⟩⟩
     case round =>
      clear H'
      (try clear c14); (try clear hz15)
      obtain ⟨x30_2, rfl, HA, HK2, BK101, HB⟩ := hrel
      cases gk with
      | zero => exact absurd HA.out (by simp [impl_GoodBoard.l0])
      | succ k2 =>
       have H := HA.out
       clear HA
       simp only [impl_GoodBoard.l0] at H
       by_cases c16 : x30_2 < (l0_3.length : Int)
       · rw [if_pos c16] at H
         have c16b0 := dL c16
         clear c16
         obtain ⟨c17b0, H⟩ := sE H
         obtain ⟨c18b0, H⟩ := sL H
         have HC19 := aM H
         clear H
         have p105 : 0 ≤ (x30_2 : Int) := of_decide_eq_true z1200
         have q105 : x30_2 < (l0_3.length : Int) := of_decide_eq_true z1200
         obtain ⟨ad105, A105_1, c105_1, A105_7, c105_7, e105, hx105_0, hx105_1, hx105_2, hx105_3, hx105_4, hx105_5, hx105_6, hx105_7, hx105_8, hx105_9, hx105_10, hl105_1, hi105_1, hl105_7, hi105_7⟩ := at_T37 HR0_3.out x30_2 p105 q105
         cases e105
         have TW105_1 := aM hx105_1
         have TW105_7 := aM hx105_7
         replace hx105_0 := (HB.out.cell (World.block_lt_of_cell? w _ hx105_0)).trans hx105_0
         replace hx105_1 := (HB.out.cell (World.block_lt_of_cell? w _ hx105_1)).trans hx105_1
         replace hx105_2 := (HB.out.cell (World.block_lt_of_cell? w _ hx105_2)).trans hx105_2
         replace hx105_3 := (HB.out.cell (World.block_lt_of_cell? w _ hx105_3)).trans hx105_3
         replace hx105_4 := (HB.out.cell (World.block_lt_of_cell? w _ hx105_4)).trans hx105_4
         replace hx105_5 := (HB.out.cell (World.block_lt_of_cell? w _ hx105_5)).trans hx105_5
         replace hx105_6 := (HB.out.cell (World.block_lt_of_cell? w _ hx105_6)).trans hx105_6
         replace hx105_7 := (HB.out.cell (World.block_lt_of_cell? w _ hx105_7)).trans hx105_7
         replace hx105_8 := (HB.out.cell (World.block_lt_of_cell? w _ hx105_8)).trans hx105_8
         replace hx105_9 := (HB.out.cell (World.block_lt_of_cell? w _ hx105_9)).trans hx105_9
         replace hx105_10 := (HB.out.cell (World.block_lt_of_cell? w _ hx105_10)).trans hx105_10
         have HR105_1 := aM hi105_1
         have HC105_1 := aM hl105_1
         clear hi105_1 hl105_1
         have HR105_7 := aM hi105_7
         have HC105_7 := aM hl105_7
         clear hi105_7 hl105_7
         replace p105 := eq_true p105
         replace q105 := eq_true q105
         go_upto_region 6 with (first | ((with_reducible refine gate_dst (N := 4) rfl ?_); (try (refine gate_guard (by rfl) ?_; dsimp only)); refine bX 4 37 #[.string (⟨#[]⟩ : ByteArray), .slice none 0 0, .int .i64 0, .int .i64 0, .int .i64 0, .int .i64 0, .int .i64 0, .slice none 0 0, .bool false, .int .i64 0, .bool false] ?_; intro gb106 hg w20 hbox hb; have _ := bB gb101 hb; have _ := aM (below_step hbZ hb); have _ := aM hbox; have _ := szZ hg; have _ := szZ hg; have ⟨_, _⟩ := nbB gb101 hg; clear BK101 HB; rename_i BK101 HB BK106 GW106 GE106 NB101_106 NB106_101; clear hb hbox hg; have hnb21 := NB106_101.out; have hnc21 := NB101_106.out; have hz22 := cellsZ11 BK106.out))
         (try simp only [Act.put, List.setIfInBounds_toArray, List.set_cons_zero, List.set_cons_succ])
         go_cut [75] (fun v75 wc => ∃ (kq : Nat) (x75_18 : Bool), v75 = .bool x75_18 ∧ Aside0 (impl_GoodBoard.j2 kq x30_2 l0_3 (l0_3.length : Int) x30_2 x75_18 a0_0 a0_1 a0_2 l0_3 ((rd_T37 l0_3 x30_2).f0.f0) ((rd_T37 l0_3 x30_2).f0.f1) ((rd_T37 l0_3 x30_2).f0.f2) ((rd_T37 l0_3 x30_2).f1.f0) ((rd_T37 l0_3 x30_2).f1.f1) ((rd_T37 l0_3 x30_2).f1.f2) ((rd_T37 l0_3 x30_2).f1.f3) ((rd_T37 l0_3 x30_2).f1.f4) ((rd_T37 l0_3 x30_2).f1.f5) ((rd_T37 l0_3 x30_2).f2) ((rd_T37 l0_3 x30_2).f3) = some r) ∧ Aside0 (kq ≤ k2) ∧ Aside0 (wc.heap[gb101]? = some (.cells #[.int .i64 a0_0, .int .i64 a0_1, .int .i64 a0_2, (.slice (some ad105) l0_3.length c0_3)] 42 (0, 0))) ∧ Aside0 (wc.heap[gb106]? = some (.cells #[.string ((rd_T37 l0_3 x30_2).f0.f0), (.slice A105_1 ((rd_T37 l0_3 x30_2).f0.f1).length c105_1), .int .i64 ((rd_T37 l0_3 x30_2).f0.f2), .int .i64 ((rd_T37 l0_3 x30_2).f1.f0), .int .i64 ((rd_T37 l0_3 x30_2).f1.f1), .int .i64 ((rd_T37 l0_3 x30_2).f1.f2), .int .i64 ((rd_T37 l0_3 x30_2).f1.f3), (.slice A105_7 ((rd_T37 l0_3 x30_2).f1.f4).length c105_7), .bool ((rd_T37 l0_3 x30_2).f1.f5), .int .i64 ((rd_T37 l0_3 x30_2).f2), .bool ((rd_T37 l0_3 x30_2).f3)] 37 (0, 0))) ∧ Aside0 (Below w.heap.size w wc))
         case first =>
          have H := HC19.out
          clear HC19
          obtain ⟨t107, A23, H⟩ := bS H; try dsimp only at H
          by_cases c24 : t107 = true
          · subst c24
            rw [if_pos rfl] at H
            replace H := ifN H; obtain ⟨c25, H⟩ := H
            have c25b0 : (a0_0 == 0) = false := beq_eq_false_iff_ne.mpr c25
            have c25b1 : (a0_0 != 0) = true := bne_iff_ne.mpr c25
            (first | rw [c25b0] | (simp only [i64_w, i32_w]; rw [c25b0]) | skip)
            by_cases c26 : (Int.tmod ((rd_T37 l0_3 x30_2).f0.f2) a0_0) = 0
            · rw [if_pos c26] at H
              have c26b0 : ((Int.tmod ((rd_T37 l0_3 x30_2).f0.f2) a0_0) == 0) = true := beq_iff_eq.mpr c26
              have c26b1 : ((Int.tmod ((rd_T37 l0_3 x30_2).f0.f2) a0_0) != 0) = false := bne_eq_false_iff_eq.mpr c26
              clear c26
              obtain ⟨t108, A27, H⟩ := bS H; try dsimp only at H
              by_cases c28 : t108 = true
              · subst c28
                rw [if_pos rfl] at H
                by_cases c29 : ((rd_T37 l0_3 x30_2).f1.f0) = 0
                · rw [if_pos c29] at H
                  have c29b0 : (((rd_T37 l0_3 x30_2).f1.f0) == 0) = true := beq_iff_eq.mpr c29
                  have c29b1 : (((rd_T37 l0_3 x30_2).f1.f0) != 0) = false := bne_eq_false_iff_eq.mpr c29
                  clear c29
                  have H' := aM H
                  clear H
                  have hnb30 := NB106_101.out
                  have hnc30 := NB101_106.out
                  have hz31 := cellsZ11 BK106.out
                  go_wp2_with (first | ((with_reducible refine gate_callee (f := 47) rfl ?_); refine gL 37 Tryd.func47 #[.agg #[.string ((rd_T37 l0_3 x30_2).f0.f0), .slice A105_1 ((rd_T37 l0_3 x30_2).f0.f1).length c105_1, .int .i64 ((rd_T37 l0_3 x30_2).f0.f2)]] ?_; (with_reducible refine (impl_GoodKey.calls k2 ((rd_T37 l0_3 x30_2).f0.f0) _ _ ((rd_T37 l0_3 x30_2).f0.f1) ((rd_T37 l0_3 x30_2).f0.f2) true _ ?side1 ?side2 A23.out).mono ?_); (case side1 => exact Kd.C_below HR105_1.out hbZ); (case side2 => exact HC105_1.out); rintro e w32 ⟨rfl, hb⟩; refine ⟨_, rfl, ?_⟩; have _ := bB gb101 hb; have _ := aM (blk_below (g := gb106) (o := .cells #[.string ((rd_T37 l0_3 x30_2).f0.f0), .slice A105_1 ((rd_T37 l0_3 x30_2).f0.f1).length c105_1, .int .i64 ((rd_T37 l0_3 x30_2).f0.f2), .int .i64 ((rd_T37 l0_3 x30_2).f1.f0), .int .i64 ((rd_T37 l0_3 x30_2).f1.f1), .int .i64 ((rd_T37 l0_3 x30_2).f1.f2), .int .i64 ((rd_T37 l0_3 x30_2).f1.f3), .slice A105_7 ((rd_T37 l0_3 x30_2).f1.f4).length c105_7, .bool ((rd_T37 l0_3 x30_2).f1.f5), .int .i64 ((rd_T37 l0_3 x30_2).f2), .bool ((rd_T37 l0_3 x30_2).f3)] 37 (0, 0)) bkZ hb); have _ := aM (below_step hbZ hb); clear BK101 BK106 HB; rename_i BK101 BK106 HB; (try clear hb); have hz33 := cellsZ11 BK106.out; have hz34 := cellsZ4 BK101.out) | (go_at_call 91; (with_reducible refine (impl_GoodAgg.calls k2 ((rd_T37 l0_3 x30_2).f1.f0) ((rd_T37 l0_3 x30_2).f1.f1) ((rd_T37 l0_3 x30_2).f1.f2) ((rd_T37 l0_3 x30_2).f1.f3) _ _ ((rd_T37 l0_3 x30_2).f1.f4) ((rd_T37 l0_3 x30_2).f1.f5) true _ ?side1 ?side2 A27.out).mono ?_); (case side1 => exact (cZ (Kd.C_below HR105_7.out HB.out))); (case side2 => exact HC105_7.out); rintro e w35 ⟨rfl, hb⟩; have _ := bB gb101 hb; have _ := bB gb106 hb; have _ := aM (below_step hbZ hb); clear BK101 BK106 HB; rename_i BK101 BK106 HB; (try clear hb); have hz36 := cellsZ11 BK106.out))
                  go_meet
                  case rel => exact ⟨_, (true), z4458, H', ⟨zdc19⟩, ⟨bkZ⟩, ⟨bkZ⟩, ⟨zcb41⟩⟩
                · rw [if_neg c29] at H
                  have c29b0 := eqN c29
                  obtain ⟨t109, A37, H⟩ := bS H; try dsimp only at H
                  by_cases c38 : t109 = true
                  · subst c38
                    rw [if_pos rfl] at H
                    by_cases c39 : ((rd_T37 l0_3 x30_2).f2) = 0
                    · rw [if_pos c39] at H
                      have c39b0 : (((rd_T37 l0_3 x30_2).f2) == 0) = true := beq_iff_eq.mpr c39
                      have c39b1 : (((rd_T37 l0_3 x30_2).f2) != 0) = false := bne_eq_false_iff_eq.mpr c39
                      clear c39
                      have H' := aM H
                      clear H
                      have hnb40 := NB106_101.out
                      have hnc40 := NB101_106.out
                      have hz41 := cellsZ11 BK106.out
                      go_wp2_with (first | ((with_reducible refine gate_callee (f := 47) rfl ?_); refine gL 37 Tryd.func47 #[.agg #[.string ((rd_T37 l0_3 x30_2).f0.f0), .slice A105_1 ((rd_T37 l0_3 x30_2).f0.f1).length c105_1, .int .i64 ((rd_T37 l0_3 x30_2).f0.f2)]] ?_; (with_reducible refine (impl_GoodKey.calls k2 ((rd_T37 l0_3 x30_2).f0.f0) _ _ ((rd_T37 l0_3 x30_2).f0.f1) ((rd_T37 l0_3 x30_2).f0.f2) true _ ?side1 ?side2 A23.out).mono ?_); (case side1 => exact Kd.C_below HR105_1.out hbZ); (case side2 => exact HC105_1.out); rintro e w42 ⟨rfl, hb⟩; refine ⟨_, rfl, ?_⟩; have _ := bB gb101 hb; have _ := aM (blk_below (g := gb106) (o := .cells #[.string ((rd_T37 l0_3 x30_2).f0.f0), .slice A105_1 ((rd_T37 l0_3 x30_2).f0.f1).length c105_1, .int .i64 ((rd_T37 l0_3 x30_2).f0.f2), .int .i64 ((rd_T37 l0_3 x30_2).f1.f0), .int .i64 ((rd_T37 l0_3 x30_2).f1.f1), .int .i64 ((rd_T37 l0_3 x30_2).f1.f2), .int .i64 ((rd_T37 l0_3 x30_2).f1.f3), .slice A105_7 ((rd_T37 l0_3 x30_2).f1.f4).length c105_7, .bool ((rd_T37 l0_3 x30_2).f1.f5), .int .i64 ((rd_T37 l0_3 x30_2).f2), .bool ((rd_T37 l0_3 x30_2).f3)] 37 (0, 0)) bkZ hb); have _ := aM (below_step hbZ hb); clear BK101 BK106 HB; rename_i BK101 BK106 HB; (try clear hb); have hz43 := cellsZ11 BK106.out; have hz44 := cellsZ4 BK101.out) | (go_at_call 91; (with_reducible refine (impl_GoodAgg.calls k2 ((rd_T37 l0_3 x30_2).f1.f0) ((rd_T37 l0_3 x30_2).f1.f1) ((rd_T37 l0_3 x30_2).f1.f2) ((rd_T37 l0_3 x30_2).f1.f3) _ _ ((rd_T37 l0_3 x30_2).f1.f4) ((rd_T37 l0_3 x30_2).f1.f5) true _ ?side1 ?side2 A27.out).mono ?_); (case side1 => exact (cZ (Kd.C_below HR105_7.out HB.out))); (case side2 => exact HC105_7.out); rintro e w45 ⟨rfl, hb⟩; have _ := bB gb101 hb; have _ := bB gb106 hb; have _ := aM (below_step hbZ hb); clear BK101 BK106 HB; rename_i BK101 BK106 HB; (try clear hb); have hz46 := cellsZ11 BK106.out) | (go_at_call 90; (with_reducible refine (impl_within.calls ((rd_T37 l0_3 x30_2).f2) 0 1000000 true _ A37.out).mono ?_); rintro e w' ⟨rfl, ⟨nd, rfl⟩⟩))
                      go_meet
                      case rel => exact ⟨_, (!((rd_T37 l0_3 x30_2).f3)), z4458, H', ⟨zdc19⟩, ⟨bkZ⟩, ⟨bkZ⟩, ⟨zcb41⟩⟩
                    · rw [if_neg c39] at H
                      have c39b0 := eqN c39
                      have H' := aM H
                      clear H
                      have hnb47 := NB106_101.out
                      have hnc47 := NB101_106.out
                      have hz48 := cellsZ11 BK106.out
                      go_wp2_with (first | ((with_reducible refine gate_callee (f := 47) rfl ?_); refine gL 37 Tryd.func47 #[.agg #[.string ((rd_T37 l0_3 x30_2).f0.f0), .slice A105_1 ((rd_T37 l0_3 x30_2).f0.f1).length c105_1, .int .i64 ((rd_T37 l0_3 x30_2).f0.f2)]] ?_; (with_reducible refine (impl_GoodKey.calls k2 ((rd_T37 l0_3 x30_2).f0.f0) _ _ ((rd_T37 l0_3 x30_2).f0.f1) ((rd_T37 l0_3 x30_2).f0.f2) true _ ?side1 ?side2 A23.out).mono ?_); (case side1 => exact Kd.C_below HR105_1.out hbZ); (case side2 => exact HC105_1.out); rintro e w49 ⟨rfl, hb⟩; refine ⟨_, rfl, ?_⟩; have _ := bB gb101 hb; have _ := aM (blk_below (g := gb106) (o := .cells #[.string ((rd_T37 l0_3 x30_2).f0.f0), .slice A105_1 ((rd_T37 l0_3 x30_2).f0.f1).length c105_1, .int .i64 ((rd_T37 l0_3 x30_2).f0.f2), .int .i64 ((rd_T37 l0_3 x30_2).f1.f0), .int .i64 ((rd_T37 l0_3 x30_2).f1.f1), .int .i64 ((rd_T37 l0_3 x30_2).f1.f2), .int .i64 ((rd_T37 l0_3 x30_2).f1.f3), .slice A105_7 ((rd_T37 l0_3 x30_2).f1.f4).length c105_7, .bool ((rd_T37 l0_3 x30_2).f1.f5), .int .i64 ((rd_T37 l0_3 x30_2).f2), .bool ((rd_T37 l0_3 x30_2).f3)] 37 (0, 0)) bkZ hb); have _ := aM (below_step hbZ hb); clear BK101 BK106 HB; rename_i BK101 BK106 HB; (try clear hb); have hz50 := cellsZ11 BK106.out; have hz51 := cellsZ4 BK101.out) | (go_at_call 91; (with_reducible refine (impl_GoodAgg.calls k2 ((rd_T37 l0_3 x30_2).f1.f0) ((rd_T37 l0_3 x30_2).f1.f1) ((rd_T37 l0_3 x30_2).f1.f2) ((rd_T37 l0_3 x30_2).f1.f3) _ _ ((rd_T37 l0_3 x30_2).f1.f4) ((rd_T37 l0_3 x30_2).f1.f5) true _ ?side1 ?side2 A27.out).mono ?_); (case side1 => exact (cZ (Kd.C_below HR105_7.out HB.out))); (case side2 => exact HC105_7.out); rintro e w52 ⟨rfl, hb⟩; have _ := bB gb101 hb; have _ := bB gb106 hb; have _ := aM (below_step hbZ hb); clear BK101 BK106 HB; rename_i BK101 BK106 HB; (try clear hb); have hz53 := cellsZ11 BK106.out) | (go_at_call 90; (with_reducible refine (impl_within.calls ((rd_T37 l0_3 x30_2).f2) 0 1000000 true _ A37.out).mono ?_); rintro e w' ⟨rfl, ⟨nd, rfl⟩⟩))
                      go_meet
                      case rel => exact ⟨_, (false), z4458, H', ⟨zdc19⟩, ⟨bkZ⟩, ⟨bkZ⟩, ⟨zcb41⟩⟩
                  · replace c38 := Bool.eq_false_iff.mpr c38
                    subst c38
                    rw [if_neg (show ¬ (false = true) by decide)] at H
                    have H' := aM H
                    clear H
                    have hnb54 := NB106_101.out
                    have hnc54 := NB101_106.out
                    have hz55 := cellsZ11 BK106.out
                    go_wp2_with (first | ((with_reducible refine gate_callee (f := 47) rfl ?_); refine gL 37 Tryd.func47 #[.agg #[.string ((rd_T37 l0_3 x30_2).f0.f0), .slice A105_1 ((rd_T37 l0_3 x30_2).f0.f1).length c105_1, .int .i64 ((rd_T37 l0_3 x30_2).f0.f2)]] ?_; (with_reducible refine (impl_GoodKey.calls k2 ((rd_T37 l0_3 x30_2).f0.f0) _ _ ((rd_T37 l0_3 x30_2).f0.f1) ((rd_T37 l0_3 x30_2).f0.f2) true _ ?side1 ?side2 A23.out).mono ?_); (case side1 => exact Kd.C_below HR105_1.out hbZ); (case side2 => exact HC105_1.out); rintro e w56 ⟨rfl, hb⟩; refine ⟨_, rfl, ?_⟩; have _ := bB gb101 hb; have _ := aM (blk_below (g := gb106) (o := .cells #[.string ((rd_T37 l0_3 x30_2).f0.f0), .slice A105_1 ((rd_T37 l0_3 x30_2).f0.f1).length c105_1, .int .i64 ((rd_T37 l0_3 x30_2).f0.f2), .int .i64 ((rd_T37 l0_3 x30_2).f1.f0), .int .i64 ((rd_T37 l0_3 x30_2).f1.f1), .int .i64 ((rd_T37 l0_3 x30_2).f1.f2), .int .i64 ((rd_T37 l0_3 x30_2).f1.f3), .slice A105_7 ((rd_T37 l0_3 x30_2).f1.f4).length c105_7, .bool ((rd_T37 l0_3 x30_2).f1.f5), .int .i64 ((rd_T37 l0_3 x30_2).f2), .bool ((rd_T37 l0_3 x30_2).f3)] 37 (0, 0)) bkZ hb); have _ := aM (below_step hbZ hb); clear BK101 BK106 HB; rename_i BK101 BK106 HB; (try clear hb); have hz57 := cellsZ11 BK106.out; have hz58 := cellsZ4 BK101.out) | (go_at_call 91; (with_reducible refine (impl_GoodAgg.calls k2 ((rd_T37 l0_3 x30_2).f1.f0) ((rd_T37 l0_3 x30_2).f1.f1) ((rd_T37 l0_3 x30_2).f1.f2) ((rd_T37 l0_3 x30_2).f1.f3) _ _ ((rd_T37 l0_3 x30_2).f1.f4) ((rd_T37 l0_3 x30_2).f1.f5) true _ ?side1 ?side2 A27.out).mono ?_); (case side1 => exact (cZ (Kd.C_below HR105_7.out HB.out))); (case side2 => exact HC105_7.out); rintro e w59 ⟨rfl, hb⟩; have _ := bB gb101 hb; have _ := bB gb106 hb; have _ := aM (below_step hbZ hb); clear BK101 BK106 HB; rename_i BK101 BK106 HB; (try clear hb); have hz60 := cellsZ11 BK106.out) | (go_at_call 90; (with_reducible refine (impl_within.calls ((rd_T37 l0_3 x30_2).f2) 0 1000000 false _ A37.out).mono ?_); rintro e w' ⟨rfl, ⟨nd, rfl⟩⟩))
                    go_meet
                    case rel => exact ⟨_, (true), z4458, H', ⟨zdc19⟩, ⟨bkZ⟩, ⟨bkZ⟩, ⟨zcb41⟩⟩
              · replace c28 := Bool.eq_false_iff.mpr c28
                subst c28
                rw [if_neg (show ¬ (false = true) by decide)] at H
                have H' := aM H
                clear H
                have hnb61 := NB106_101.out
                have hnc61 := NB101_106.out
                have hz62 := cellsZ11 BK106.out
                go_wp2_with (first | ((with_reducible refine gate_callee (f := 47) rfl ?_); refine gL 37 Tryd.func47 #[.agg #[.string ((rd_T37 l0_3 x30_2).f0.f0), .slice A105_1 ((rd_T37 l0_3 x30_2).f0.f1).length c105_1, .int .i64 ((rd_T37 l0_3 x30_2).f0.f2)]] ?_; (with_reducible refine (impl_GoodKey.calls k2 ((rd_T37 l0_3 x30_2).f0.f0) _ _ ((rd_T37 l0_3 x30_2).f0.f1) ((rd_T37 l0_3 x30_2).f0.f2) true _ ?side1 ?side2 A23.out).mono ?_); (case side1 => exact Kd.C_below HR105_1.out hbZ); (case side2 => exact HC105_1.out); rintro e w63 ⟨rfl, hb⟩; refine ⟨_, rfl, ?_⟩; have _ := bB gb101 hb; have _ := aM (blk_below (g := gb106) (o := .cells #[.string ((rd_T37 l0_3 x30_2).f0.f0), .slice A105_1 ((rd_T37 l0_3 x30_2).f0.f1).length c105_1, .int .i64 ((rd_T37 l0_3 x30_2).f0.f2), .int .i64 ((rd_T37 l0_3 x30_2).f1.f0), .int .i64 ((rd_T37 l0_3 x30_2).f1.f1), .int .i64 ((rd_T37 l0_3 x30_2).f1.f2), .int .i64 ((rd_T37 l0_3 x30_2).f1.f3), .slice A105_7 ((rd_T37 l0_3 x30_2).f1.f4).length c105_7, .bool ((rd_T37 l0_3 x30_2).f1.f5), .int .i64 ((rd_T37 l0_3 x30_2).f2), .bool ((rd_T37 l0_3 x30_2).f3)] 37 (0, 0)) bkZ hb); have _ := aM (below_step hbZ hb); clear BK101 BK106 HB; rename_i BK101 BK106 HB; (try clear hb); have hz64 := cellsZ11 BK106.out; have hz65 := cellsZ4 BK101.out) | (go_at_call 91; (with_reducible refine (impl_GoodAgg.calls k2 ((rd_T37 l0_3 x30_2).f1.f0) ((rd_T37 l0_3 x30_2).f1.f1) ((rd_T37 l0_3 x30_2).f1.f2) ((rd_T37 l0_3 x30_2).f1.f3) _ _ ((rd_T37 l0_3 x30_2).f1.f4) ((rd_T37 l0_3 x30_2).f1.f5) false _ ?side1 ?side2 A27.out).mono ?_); (case side1 => exact (cZ (Kd.C_below HR105_7.out HB.out))); (case side2 => exact HC105_7.out); rintro e w66 ⟨rfl, hb⟩; have _ := bB gb101 hb; have _ := bB gb106 hb; have _ := aM (below_step hbZ hb); clear BK101 BK106 HB; rename_i BK101 BK106 HB; (try clear hb)))
                go_meet
                case rel => exact ⟨_, (true), z4458, H', ⟨zdc19⟩, ⟨bkZ⟩, ⟨bkZ⟩, ⟨zcb41⟩⟩
            · rw [if_neg c26] at H
              have c26b0 := eqN c26
              have H' := aM H
              clear H
              have hnb67 := NB106_101.out
              have hnc67 := NB101_106.out
              have hz68 := cellsZ11 BK106.out
              go_wp2_with (first | ((with_reducible refine gate_callee (f := 47) rfl ?_); refine gL 37 Tryd.func47 #[.agg #[.string ((rd_T37 l0_3 x30_2).f0.f0), .slice A105_1 ((rd_T37 l0_3 x30_2).f0.f1).length c105_1, .int .i64 ((rd_T37 l0_3 x30_2).f0.f2)]] ?_; (with_reducible refine (impl_GoodKey.calls k2 ((rd_T37 l0_3 x30_2).f0.f0) _ _ ((rd_T37 l0_3 x30_2).f0.f1) ((rd_T37 l0_3 x30_2).f0.f2) true _ ?side1 ?side2 A23.out).mono ?_); (case side1 => exact Kd.C_below HR105_1.out hbZ); (case side2 => exact HC105_1.out); rintro e w69 ⟨rfl, hb⟩; refine ⟨_, rfl, ?_⟩; have _ := bB gb101 hb; have _ := aM (blk_below (g := gb106) (o := .cells #[.string ((rd_T37 l0_3 x30_2).f0.f0), .slice A105_1 ((rd_T37 l0_3 x30_2).f0.f1).length c105_1, .int .i64 ((rd_T37 l0_3 x30_2).f0.f2), .int .i64 ((rd_T37 l0_3 x30_2).f1.f0), .int .i64 ((rd_T37 l0_3 x30_2).f1.f1), .int .i64 ((rd_T37 l0_3 x30_2).f1.f2), .int .i64 ((rd_T37 l0_3 x30_2).f1.f3), .slice A105_7 ((rd_T37 l0_3 x30_2).f1.f4).length c105_7, .bool ((rd_T37 l0_3 x30_2).f1.f5), .int .i64 ((rd_T37 l0_3 x30_2).f2), .bool ((rd_T37 l0_3 x30_2).f3)] 37 (0, 0)) bkZ hb); have _ := aM (below_step hbZ hb); clear BK101 BK106 HB; rename_i BK101 BK106 HB; (try clear hb); have hz70 := cellsZ11 BK106.out; have hz71 := cellsZ4 BK101.out))
              go_meet
              case rel => exact ⟨_, (true), z4458, H', ⟨zdc19⟩, ⟨bkZ⟩, ⟨bkZ⟩, ⟨zcb41⟩⟩
          · replace c24 := Bool.eq_false_iff.mpr c24
            subst c24
            rw [if_neg (show ¬ (false = true) by decide)] at H
            have H' := aM H
            clear H
            have hnb72 := NB106_101.out
            have hnc72 := NB101_106.out
            have hz73 := cellsZ11 BK106.out
            go_wp2_with (first | ((with_reducible refine gate_callee (f := 47) rfl ?_); refine gL 37 Tryd.func47 #[.agg #[.string ((rd_T37 l0_3 x30_2).f0.f0), .slice A105_1 ((rd_T37 l0_3 x30_2).f0.f1).length c105_1, .int .i64 ((rd_T37 l0_3 x30_2).f0.f2)]] ?_; (with_reducible refine (impl_GoodKey.calls k2 ((rd_T37 l0_3 x30_2).f0.f0) _ _ ((rd_T37 l0_3 x30_2).f0.f1) ((rd_T37 l0_3 x30_2).f0.f2) false _ ?side1 ?side2 A23.out).mono ?_); (case side1 => exact Kd.C_below HR105_1.out hbZ); (case side2 => exact HC105_1.out); rintro e w74 ⟨rfl, hb⟩; refine ⟨_, rfl, ?_⟩; have _ := bB gb101 hb; have _ := aM (blk_below (g := gb106) (o := .cells #[.string ((rd_T37 l0_3 x30_2).f0.f0), .slice A105_1 ((rd_T37 l0_3 x30_2).f0.f1).length c105_1, .int .i64 ((rd_T37 l0_3 x30_2).f0.f2), .int .i64 ((rd_T37 l0_3 x30_2).f1.f0), .int .i64 ((rd_T37 l0_3 x30_2).f1.f1), .int .i64 ((rd_T37 l0_3 x30_2).f1.f2), .int .i64 ((rd_T37 l0_3 x30_2).f1.f3), .slice A105_7 ((rd_T37 l0_3 x30_2).f1.f4).length c105_7, .bool ((rd_T37 l0_3 x30_2).f1.f5), .int .i64 ((rd_T37 l0_3 x30_2).f2), .bool ((rd_T37 l0_3 x30_2).f3)] 37 (0, 0)) bkZ hb); have _ := aM (below_step hbZ hb); clear BK101 BK106 HB; rename_i BK101 BK106 HB; (try clear hb)))
            go_meet
            case rel => exact ⟨_, (true), z4458, H', ⟨zdc19⟩, ⟨bkZ⟩, ⟨bkZ⟩, ⟨zcb41⟩⟩
         case rest =>
          clear HC19
          (try clear c16b0); (try clear c17b0); (try clear c18b0); (try clear hz22); (try clear hx105_0); (try clear hx105_1); (try clear hx105_10); (try clear hx105_2); (try clear hx105_3); (try clear hx105_4); (try clear hx105_5); (try clear hx105_6); (try clear hx105_7); (try clear hx105_8); (try clear hx105_9); (try clear p105); (try clear q105)
          obtain ⟨kq, x75_18, rfl, HA, HJ18, BK101, BK106, HB⟩ := hcut
          cases kq with
          | zero => exact absurd HA.out (by simp [impl_GoodBoard.j2])
          | succ kj18 =>
           have H := HA.out
           clear HA
           simp only [impl_GoodBoard.j2] at H
           by_cases c75 : x75_18 = true
           · subst c75
             rw [if_pos rfl] at H
             obtain rfl := Option.some.inj H
             go_wp2
             go_ret
             exact ⟨z674d, zcb41⟩
           · replace c75 := Bool.eq_false_iff.mpr c75
             subst c75
             rw [if_neg (show ¬ (false = true) by decide)] at H
             by_cases c76 : x30_2 > 0
             · rw [if_pos c76] at H
               have c76b0 := dL c76
               clear c76
               obtain ⟨ji77, hji77⟩ : ∃ j_ : Int, (wrap64 (x30_2 - 1)) = j_ := ⟨_, rfl⟩
               replace H : (if 0 ≤ (ji77) then (if (ji77) < (l0_3.length : Int) then ((impl_CompareKeys.f kj18 ((rd_T37 l0_3 (ji77)).f0.f0) ((rd_T37 l0_3 (ji77)).f0.f1) ((rd_T37 l0_3 (ji77)).f0.f2) ((rd_T37 l0_3 x30_2).f0.f0) ((rd_T37 l0_3 x30_2).f0.f1) ((rd_T37 l0_3 x30_2).f0.f2)).bind fun t111 => (if t111 ≥ 0 then (some false) else (impl_GoodBoard.l0 kj18 l0_3 (l0_3.length : Int) (wrap64 (x30_2 + 1)) a0_0 a0_1 a0_2 l0_3))) else (none)) else (none)) = some r := by first | (rw [hji77] at H; exact H) | (simp only [hji77] at H ⊢; exact H)
               have hji77w : (IntKind.i64.wrap (x30_2 - 1)) = ji77 := (i64_w _).trans hji77
               obtain ⟨c78b0, H⟩ := sE H
               obtain ⟨c79b0, H⟩ := sL H
               obtain ⟨t111, A80, H⟩ := bS H; try dsimp only at H
               by_cases c81 : t111 ≥ 0
               · rw [if_pos c81] at H
                 have c81b0 := dE c81
                 clear c81
                 obtain rfl := Option.some.inj H
                 try go_wp2
                 have _ := aM (blk_drew BK101.out)
                 have _ := aM (blk_drew BK106.out)
                 have _ := aM (below_drew1 HB.out)
                 clear BK101
                 clear BK106
                 clear HB
                 rename_i BK101 BK106 HB
                 have p110 : 0 ≤ ((ji77) : Int) := of_decide_eq_true z1200
                 have q110 : (ji77) < (l0_3.length : Int) := of_decide_eq_true z1200
                 obtain ⟨ad110, A110_1, c110_1, A110_7, c110_7, e110, hx110_0, hx110_1, hx110_2, hx110_3, hx110_4, hx110_5, hx110_6, hx110_7, hx110_8, hx110_9, hx110_10, hl110_1, hi110_1, hl110_7, hi110_7⟩ := at_T37 HR0_3.out (ji77) p110 q110
                 have hw110_10 := hx110_10
                 have hw110_9 := hx110_9
                 have hw110_8 := hx110_8
                 have hw110_7 := hx110_7
                 have hw110_6 := hx110_6
                 have hw110_5 := hx110_5
                 have hw110_4 := hx110_4
                 have hw110_3 := hx110_3
                 have hw110_2 := hx110_2
                 have hw110_1 := hx110_1
                 have hw110_0 := hx110_0
                 obtain rfl : ad105 = ad110 := (by injection e110)
                 have TW110_1 := aM hx110_1
                 have TW110_7 := aM hx110_7
                 replace hx110_0 := (HB.out.cell (World.block_lt_of_cell? w _ hx110_0)).trans hx110_0
                 replace hx110_1 := (HB.out.cell (World.block_lt_of_cell? w _ hx110_1)).trans hx110_1
                 replace hx110_2 := (HB.out.cell (World.block_lt_of_cell? w _ hx110_2)).trans hx110_2
                 replace hx110_3 := (HB.out.cell (World.block_lt_of_cell? w _ hx110_3)).trans hx110_3
                 replace hx110_4 := (HB.out.cell (World.block_lt_of_cell? w _ hx110_4)).trans hx110_4
                 replace hx110_5 := (HB.out.cell (World.block_lt_of_cell? w _ hx110_5)).trans hx110_5
                 replace hx110_6 := (HB.out.cell (World.block_lt_of_cell? w _ hx110_6)).trans hx110_6
                 replace hx110_7 := (HB.out.cell (World.block_lt_of_cell? w _ hx110_7)).trans hx110_7
                 replace hx110_8 := (HB.out.cell (World.block_lt_of_cell? w _ hx110_8)).trans hx110_8
                 replace hx110_9 := (HB.out.cell (World.block_lt_of_cell? w _ hx110_9)).trans hx110_9
                 replace hx110_10 := (HB.out.cell (World.block_lt_of_cell? w _ hx110_10)).trans hx110_10
                 have HR110_1 := aM hi110_1
                 have HC110_1 := aM hl110_1
                 clear hi110_1 hl110_1
                 have HR110_7 := aM hi110_7
                 have HC110_7 := aM hl110_7
                 clear hi110_7 hl110_7
                 replace p110 := eq_true p110
                 replace q110 := eq_true q110
                 refine sA 15 impl_GoodBoard.tab8 impl_GoodBoard.bits8 (fun w' => w'.cell? ⟨gb101, 0, none⟩ = some (.int .i64 a0_0) ∧ w'.cell? ⟨gb101, 1, none⟩ = some (.int .i64 a0_1) ∧ w'.cell? ⟨gb101, 2, none⟩ = some (.int .i64 a0_2) ∧ w'.cell? ⟨gb101, 3, none⟩ = some (.slice (some ad105) l0_3.length c0_3) ∧ w'.cell? ⟨gb106, 0, none⟩ = some (.string ((rd_T37 l0_3 x30_2).f0.f0)) ∧ w'.cell? ⟨gb106, 1, none⟩ = some (.slice A105_1 ((rd_T37 l0_3 x30_2).f0.f1).length c105_1) ∧ w'.cell? ⟨gb106, 2, none⟩ = some (.int .i64 ((rd_T37 l0_3 x30_2).f0.f2)) ∧ w'.cell? ⟨gb106, 3, none⟩ = some (.int .i64 ((rd_T37 l0_3 x30_2).f1.f0)) ∧ w'.cell? ⟨gb106, 4, none⟩ = some (.int .i64 ((rd_T37 l0_3 x30_2).f1.f1)) ∧ w'.cell? ⟨gb106, 5, none⟩ = some (.int .i64 ((rd_T37 l0_3 x30_2).f1.f2)) ∧ w'.cell? ⟨gb106, 6, none⟩ = some (.int .i64 ((rd_T37 l0_3 x30_2).f1.f3)) ∧ w'.cell? ⟨gb106, 7, none⟩ = some (.slice A105_7 ((rd_T37 l0_3 x30_2).f1.f4).length c105_7) ∧ w'.cell? ⟨gb106, 8, none⟩ = some (.bool ((rd_T37 l0_3 x30_2).f1.f5)) ∧ w'.cell? ⟨gb106, 9, none⟩ = some (.int .i64 ((rd_T37 l0_3 x30_2).f2)) ∧ w'.cell? ⟨gb106, 10, none⟩ = some (.bool ((rd_T37 l0_3 x30_2).f3)) ∧ w'.cell? (ad105.add (((ji77)).toNat * 11)) = some (.string ((rd_T37 l0_3 (ji77)).f0.f0)) ∧ w'.cell? ⟨(ad105.add (((ji77)).toNat * 11)).block, (ad105.add (((ji77)).toNat * 11)).off + 1, none⟩ = some (.slice A110_1 ((rd_T37 l0_3 (ji77)).f0.f1).length c110_1) ∧ w'.cell? ⟨(ad105.add (((ji77)).toNat * 11)).block, (ad105.add (((ji77)).toNat * 11)).off + 2, none⟩ = some (.int .i64 ((rd_T37 l0_3 (ji77)).f0.f2)) ∧ w'.cell? ⟨(ad105.add (((ji77)).toNat * 11)).block, (ad105.add (((ji77)).toNat * 11)).off + 3, none⟩ = some (.int .i64 ((rd_T37 l0_3 (ji77)).f1.f0)) ∧ w'.cell? ⟨(ad105.add (((ji77)).toNat * 11)).block, (ad105.add (((ji77)).toNat * 11)).off + 4, none⟩ = some (.int .i64 ((rd_T37 l0_3 (ji77)).f1.f1)) ∧ w'.cell? ⟨(ad105.add (((ji77)).toNat * 11)).block, (ad105.add (((ji77)).toNat * 11)).off + 5, none⟩ = some (.int .i64 ((rd_T37 l0_3 (ji77)).f1.f2)) ∧ w'.cell? ⟨(ad105.add (((ji77)).toNat * 11)).block, (ad105.add (((ji77)).toNat * 11)).off + 6, none⟩ = some (.int .i64 ((rd_T37 l0_3 (ji77)).f1.f3)) ∧ w'.cell? ⟨(ad105.add (((ji77)).toNat * 11)).block, (ad105.add (((ji77)).toNat * 11)).off + 7, none⟩ = some (.slice A110_7 ((rd_T37 l0_3 (ji77)).f1.f4).length c110_7) ∧ w'.cell? ⟨(ad105.add (((ji77)).toNat * 11)).block, (ad105.add (((ji77)).toNat * 11)).off + 8, none⟩ = some (.bool ((rd_T37 l0_3 (ji77)).f1.f5)) ∧ w'.cell? ⟨(ad105.add (((ji77)).toNat * 11)).block, (ad105.add (((ji77)).toNat * 11)).off + 9, none⟩ = some (.int .i64 ((rd_T37 l0_3 (ji77)).f2)) ∧ w'.cell? ⟨(ad105.add (((ji77)).toNat * 11)).block, (ad105.add (((ji77)).toNat * 11)).off + 10, none⟩ = some (.bool ((rd_T37 l0_3 (ji77)).f3))) [] (fun hHeld HT_ HW_ => ?_)
                 generalize wc.drew = w82 at BK101 BK106 HB HR110_1 HR110_7 hx110_0 hx110_1 hx110_10 hx110_2 hx110_3 hx110_4 hx110_5 hx110_6 hx110_7 hx110_8 hx110_9 hHeld ⊢
                 refine pA 0 76 HT_ ?_; refine pA 1 77 HT_ ?_; refine pA 2 78 HT_ ?_; refine pA 3 79 HT_ ?_; refine pA 5 81 HT_ ?_; refine pA 6 82 HT_ ?_; refine pA 10 86 HT_ ?_; refine tA 4 80 HT_ HW_ hHeld ?_; refine pA 7 83 HT_ ?_; refine pA 8 84 HT_ ?_; refine tA 9 85 HT_ HW_ hHeld ?_; refine tA 11 87 HT_ HW_ hHeld ?_; refine oA 12 88 HT_ (fun K hK => ?_)
                 refine goes_ Tryd.func72 (by kernel_rfl) rfl #[.agg #[.string ((rd_T37 l0_3 (ji77)).f0.f0), .slice A110_1 ((rd_T37 l0_3 (ji77)).f0.f1).length c110_1, .int .i64 ((rd_T37 l0_3 (ji77)).f0.f2)], .agg #[.string ((rd_T37 l0_3 x30_2).f0.f0), .slice A105_1 ((rd_T37 l0_3 x30_2).f0.f1).length c105_1, .int .i64 ((rd_T37 l0_3 x30_2).f0.f2)]] (by rfl) rfl rfl (by (try simp only [List.map_toArray, List.map_cons, List.map_nil]); first | done | (simp only [hji77]; rfl) | rfl | (simp only [List.length_drop, List.length_take]; rfl)) ?_
                 with_reducible refine (impl_CompareKeys.calls kj18 ((rd_T37 l0_3 (ji77)).f0.f0) _ _ ((rd_T37 l0_3 (ji77)).f0.f1) ((rd_T37 l0_3 (ji77)).f0.f2) ((rd_T37 l0_3 x30_2).f0.f0) _ _ ((rd_T37 l0_3 x30_2).f0.f1) ((rd_T37 l0_3 x30_2).f0.f2) t111 _ ?side1 ?side2 ?side3 ?side4 A80.out).mono ?_
                 (case side1 => exact (cZ (Kd.C_below HR110_1.out HB.out)))
                 (case side2 => exact HC110_1.out)
                 (case side3 => exact (cZ (Kd.C_below HR105_1.out HB.out)))
                 (case side4 => exact HC105_1.out)
                 rintro e w83 ⟨rfl, hb⟩
                 refine ⟨_, rfl, ?_⟩
                 have _ := bB gb101 hb
                 have _ := bB gb106 hb
                 have _ := aM (below_step hbZ hb)
                 clear BK101
                 clear BK106
                 clear HB
                 rename_i BK101 BK106 HB
                 (try clear hb)
                 refine hK.out _ _ sZ (fun hHeld => ?_)
                 clear hK K
                 refine nA 88 ?_; refine pA 13 89 HT_ ?_; refine pA 14 90 HT_ ?_
                 refine done_ (done_of HT_.out (by kernel_rfl)) ?_
                 try go_wp2
                 go_ret
                 exact ⟨by first | rfl | (simp [errW_none, errW_some] <;> rfl) | (simp only [← hji77]; first | rfl | (simp [errW_none, errW_some] <;> rfl)) | (simp [*, errW_none, errW_some] <;> rfl), zcb41⟩
               · rw [if_neg c81] at H
                 have c81b0 := nE c81
                 clear c81
                 have H' := aM H
                 clear H
                 try go_wp2
                 have _ := aM (blk_drew BK101.out)
                 have _ := aM (blk_drew BK106.out)
                 have _ := aM (below_drew1 HB.out)
                 clear BK101
                 clear BK106
                 clear HB
                 rename_i BK101 BK106 HB
                 have p110 : 0 ≤ ((ji77) : Int) := of_decide_eq_true z1200
                 have q110 : (ji77) < (l0_3.length : Int) := of_decide_eq_true z1200
                 obtain ⟨ad110, A110_1, c110_1, A110_7, c110_7, e110, hx110_0, hx110_1, hx110_2, hx110_3, hx110_4, hx110_5, hx110_6, hx110_7, hx110_8, hx110_9, hx110_10, hl110_1, hi110_1, hl110_7, hi110_7⟩ := at_T37 HR0_3.out (ji77) p110 q110
                 have hw110_10 := hx110_10
                 have hw110_9 := hx110_9
                 have hw110_8 := hx110_8
                 have hw110_7 := hx110_7
                 have hw110_6 := hx110_6
                 have hw110_5 := hx110_5
                 have hw110_4 := hx110_4
                 have hw110_3 := hx110_3
                 have hw110_2 := hx110_2
                 have hw110_1 := hx110_1
                 have hw110_0 := hx110_0
                 obtain rfl : ad105 = ad110 := (by injection e110)
                 have TW110_1 := aM hx110_1
                 have TW110_7 := aM hx110_7
                 replace hx110_0 := (HB.out.cell (World.block_lt_of_cell? w _ hx110_0)).trans hx110_0
                 replace hx110_1 := (HB.out.cell (World.block_lt_of_cell? w _ hx110_1)).trans hx110_1
                 replace hx110_2 := (HB.out.cell (World.block_lt_of_cell? w _ hx110_2)).trans hx110_2
                 replace hx110_3 := (HB.out.cell (World.block_lt_of_cell? w _ hx110_3)).trans hx110_3
                 replace hx110_4 := (HB.out.cell (World.block_lt_of_cell? w _ hx110_4)).trans hx110_4
                 replace hx110_5 := (HB.out.cell (World.block_lt_of_cell? w _ hx110_5)).trans hx110_5
                 replace hx110_6 := (HB.out.cell (World.block_lt_of_cell? w _ hx110_6)).trans hx110_6
                 replace hx110_7 := (HB.out.cell (World.block_lt_of_cell? w _ hx110_7)).trans hx110_7
                 replace hx110_8 := (HB.out.cell (World.block_lt_of_cell? w _ hx110_8)).trans hx110_8
                 replace hx110_9 := (HB.out.cell (World.block_lt_of_cell? w _ hx110_9)).trans hx110_9
                 replace hx110_10 := (HB.out.cell (World.block_lt_of_cell? w _ hx110_10)).trans hx110_10
                 have HR110_1 := aM hi110_1
                 have HC110_1 := aM hl110_1
                 clear hi110_1 hl110_1
                 have HR110_7 := aM hi110_7
                 have HC110_7 := aM hl110_7
                 clear hi110_7 hl110_7
                 replace p110 := eq_true p110
                 replace q110 := eq_true q110
                 refine sA 15 impl_GoodBoard.tab8 impl_GoodBoard.bits8 (fun w' => w'.cell? ⟨gb101, 0, none⟩ = some (.int .i64 a0_0) ∧ w'.cell? ⟨gb101, 1, none⟩ = some (.int .i64 a0_1) ∧ w'.cell? ⟨gb101, 2, none⟩ = some (.int .i64 a0_2) ∧ w'.cell? ⟨gb101, 3, none⟩ = some (.slice (some ad105) l0_3.length c0_3) ∧ w'.cell? ⟨gb106, 0, none⟩ = some (.string ((rd_T37 l0_3 x30_2).f0.f0)) ∧ w'.cell? ⟨gb106, 1, none⟩ = some (.slice A105_1 ((rd_T37 l0_3 x30_2).f0.f1).length c105_1) ∧ w'.cell? ⟨gb106, 2, none⟩ = some (.int .i64 ((rd_T37 l0_3 x30_2).f0.f2)) ∧ w'.cell? ⟨gb106, 3, none⟩ = some (.int .i64 ((rd_T37 l0_3 x30_2).f1.f0)) ∧ w'.cell? ⟨gb106, 4, none⟩ = some (.int .i64 ((rd_T37 l0_3 x30_2).f1.f1)) ∧ w'.cell? ⟨gb106, 5, none⟩ = some (.int .i64 ((rd_T37 l0_3 x30_2).f1.f2)) ∧ w'.cell? ⟨gb106, 6, none⟩ = some (.int .i64 ((rd_T37 l0_3 x30_2).f1.f3)) ∧ w'.cell? ⟨gb106, 7, none⟩ = some (.slice A105_7 ((rd_T37 l0_3 x30_2).f1.f4).length c105_7) ∧ w'.cell? ⟨gb106, 8, none⟩ = some (.bool ((rd_T37 l0_3 x30_2).f1.f5)) ∧ w'.cell? ⟨gb106, 9, none⟩ = some (.int .i64 ((rd_T37 l0_3 x30_2).f2)) ∧ w'.cell? ⟨gb106, 10, none⟩ = some (.bool ((rd_T37 l0_3 x30_2).f3)) ∧ w'.cell? (ad105.add (((ji77)).toNat * 11)) = some (.string ((rd_T37 l0_3 (ji77)).f0.f0)) ∧ w'.cell? ⟨(ad105.add (((ji77)).toNat * 11)).block, (ad105.add (((ji77)).toNat * 11)).off + 1, none⟩ = some (.slice A110_1 ((rd_T37 l0_3 (ji77)).f0.f1).length c110_1) ∧ w'.cell? ⟨(ad105.add (((ji77)).toNat * 11)).block, (ad105.add (((ji77)).toNat * 11)).off + 2, none⟩ = some (.int .i64 ((rd_T37 l0_3 (ji77)).f0.f2)) ∧ w'.cell? ⟨(ad105.add (((ji77)).toNat * 11)).block, (ad105.add (((ji77)).toNat * 11)).off + 3, none⟩ = some (.int .i64 ((rd_T37 l0_3 (ji77)).f1.f0)) ∧ w'.cell? ⟨(ad105.add (((ji77)).toNat * 11)).block, (ad105.add (((ji77)).toNat * 11)).off + 4, none⟩ = some (.int .i64 ((rd_T37 l0_3 (ji77)).f1.f1)) ∧ w'.cell? ⟨(ad105.add (((ji77)).toNat * 11)).block, (ad105.add (((ji77)).toNat * 11)).off + 5, none⟩ = some (.int .i64 ((rd_T37 l0_3 (ji77)).f1.f2)) ∧ w'.cell? ⟨(ad105.add (((ji77)).toNat * 11)).block, (ad105.add (((ji77)).toNat * 11)).off + 6, none⟩ = some (.int .i64 ((rd_T37 l0_3 (ji77)).f1.f3)) ∧ w'.cell? ⟨(ad105.add (((ji77)).toNat * 11)).block, (ad105.add (((ji77)).toNat * 11)).off + 7, none⟩ = some (.slice A110_7 ((rd_T37 l0_3 (ji77)).f1.f4).length c110_7) ∧ w'.cell? ⟨(ad105.add (((ji77)).toNat * 11)).block, (ad105.add (((ji77)).toNat * 11)).off + 8, none⟩ = some (.bool ((rd_T37 l0_3 (ji77)).f1.f5)) ∧ w'.cell? ⟨(ad105.add (((ji77)).toNat * 11)).block, (ad105.add (((ji77)).toNat * 11)).off + 9, none⟩ = some (.int .i64 ((rd_T37 l0_3 (ji77)).f2)) ∧ w'.cell? ⟨(ad105.add (((ji77)).toNat * 11)).block, (ad105.add (((ji77)).toNat * 11)).off + 10, none⟩ = some (.bool ((rd_T37 l0_3 (ji77)).f3))) [] (fun hHeld HT_ HW_ => ?_)
                 generalize wc.drew = w84 at BK101 BK106 HB HR110_1 HR110_7 hx110_0 hx110_1 hx110_10 hx110_2 hx110_3 hx110_4 hx110_5 hx110_6 hx110_7 hx110_8 hx110_9 hHeld ⊢
                 refine pA 0 76 HT_ ?_; refine pA 1 77 HT_ ?_; refine pA 2 78 HT_ ?_; refine pA 3 79 HT_ ?_; refine pA 5 81 HT_ ?_; refine pA 6 82 HT_ ?_; refine pA 10 86 HT_ ?_; refine tA 4 80 HT_ HW_ hHeld ?_; refine pA 7 83 HT_ ?_; refine pA 8 84 HT_ ?_; refine tA 9 85 HT_ HW_ hHeld ?_; refine tA 11 87 HT_ HW_ hHeld ?_; refine oA 12 88 HT_ (fun K hK => ?_)
                 refine goes_ Tryd.func72 (by kernel_rfl) rfl #[.agg #[.string ((rd_T37 l0_3 (ji77)).f0.f0), .slice A110_1 ((rd_T37 l0_3 (ji77)).f0.f1).length c110_1, .int .i64 ((rd_T37 l0_3 (ji77)).f0.f2)], .agg #[.string ((rd_T37 l0_3 x30_2).f0.f0), .slice A105_1 ((rd_T37 l0_3 x30_2).f0.f1).length c105_1, .int .i64 ((rd_T37 l0_3 x30_2).f0.f2)]] (by rfl) rfl rfl (by (try simp only [List.map_toArray, List.map_cons, List.map_nil]); first | done | (simp only [hji77]; rfl) | rfl | (simp only [List.length_drop, List.length_take]; rfl)) ?_
                 with_reducible refine (impl_CompareKeys.calls kj18 ((rd_T37 l0_3 (ji77)).f0.f0) _ _ ((rd_T37 l0_3 (ji77)).f0.f1) ((rd_T37 l0_3 (ji77)).f0.f2) ((rd_T37 l0_3 x30_2).f0.f0) _ _ ((rd_T37 l0_3 x30_2).f0.f1) ((rd_T37 l0_3 x30_2).f0.f2) t111 _ ?side1 ?side2 ?side3 ?side4 A80.out).mono ?_
                 (case side1 => exact (cZ (Kd.C_below HR110_1.out HB.out)))
                 (case side2 => exact HC110_1.out)
                 (case side3 => exact (cZ (Kd.C_below HR105_1.out HB.out)))
                 (case side4 => exact HC105_1.out)
                 rintro e w85 ⟨rfl, hb⟩
                 refine ⟨_, rfl, ?_⟩
                 have _ := bB gb101 hb
                 have _ := bB gb106 hb
                 have _ := aM (below_step hbZ hb)
                 clear BK101
                 clear BK106
                 clear HB
                 rename_i BK101 BK106 HB
                 (try clear hb)
                 refine hK.out _ _ sZ (fun hHeld => ?_)
                 clear hK K
                 refine nA 88 ?_; refine pA 13 89 HT_ ?_; refine pA 14 90 HT_ ?_
                 refine done_ (done_of HT_.out (by kernel_rfl)) ?_
                 try go_wp2
                 go_roundg kj18
                 case measure => have := HJ1.out; have := HK2.out; have := HJ18.out; omega
                 case rel => exact ⟨(wrap64 (x30_2 + 1)), z4458, H', ⟨by have := HJ1.out; have := HK2.out; have := HJ18.out; omega⟩, ⟨bkZ⟩, ⟨zcb41⟩⟩
             · rw [if_neg c76] at H
               have c76b0 := nL c76
               clear c76
               have H' := aM H
               clear H
               try go_wp2
               have _ := aM (blk_drew BK101.out)
               have _ := aM (blk_drew BK106.out)
               have _ := aM (below_drew1 HB.out)
               clear BK101
               clear BK106
               clear HB
               rename_i BK101 BK106 HB
               refine sA 15 impl_GoodBoard.tab8 impl_GoodBoard.bits8 (fun w' => True) [] (fun hHeld HT_ HW_ => ?_)
               generalize wc.drew = w86 at BK101 BK106 HB hHeld ⊢
               refine pA 0 76 HT_ ?_; refine pA 1 77 HT_ ?_; refine pA 2 78 HT_ ?_; refine uA 3 79 HT_ ?_; refine uA 4 80 HT_ ?_; refine uA 5 81 HT_ ?_; refine uA 6 82 HT_ ?_; refine uA 7 83 HT_ ?_; refine uA 8 84 HT_ ?_; refine uA 9 85 HT_ ?_; refine uA 10 86 HT_ ?_; refine uA 11 87 HT_ ?_; refine uA 12 88 HT_ ?_; refine uA 13 89 HT_ ?_; refine pA 14 90 HT_ ?_
               refine done_ (done_of HT_.out (by kernel_rfl)) ?_
               try go_wp2
               go_roundg kj18
               case measure => have := HJ1.out; have := HK2.out; have := HJ18.out; omega
               case rel => exact ⟨(wrap64 (x30_2 + 1)), z4458, H', ⟨by have := HJ1.out; have := HK2.out; have := HJ18.out; omega⟩, ⟨bkZ⟩, ⟨zcb41⟩⟩
       · rw [if_neg c16] at H
         have c16b0 := nL c16
         clear c16
         obtain rfl := Option.some.inj H
         go_wp2
         go_ret
         exact ⟨z674d, zcb41⟩

end Go.Proofs.YtkgmoajdcibafaaDoor.P

section
/- A call, in a region that draws, of a function that was handed on. No conditions. -/
set_option linter.unusedVariables false
namespace Go.Proofs.YtkgmoajdcibafaaDoor.P
open Go.RowKit Go.Proofs.YtkgmoajdcibafaaDoorW.PrintWords Go.Proofs.YtkgmoajdcibafaaDoorW.PrintLast Go.Proofs.YtkgmoajdcibafaaDoorW.PrintMore
theorem goesV_ {P : Program} {ops : Array Oper} {Q : Exit → Act → World → Prop} {oi : Oper} {N : Option Tmp} {a : Act} {w : World} {K : Act → World → Prop} {f : FuncId} {fn : Func} {t : Operand} {xs : Array Operand} {ts : Array TypeId} (hf : P.funcs[f]? = some fn) (hname : (fn.name == "runtime.NumGoroutine") = false) (hb : fn.body.isSome = true) (args : Array Value)
    (hw : Region.wanted oi (yielded ops a.tmps) = true) (hN : oi.dst = N) (hop : oi.op = .call { callee := .value t, args := xs, argTypes := ts }) (hv : a.eval t = .func (.func f) #[] #[]) (hargs : xs.map a.eval = args)
    (h : Calls P f args w fun e w' => ∃ v, e = .returned v ∧ K (a.put N v) w') : if Region.wanted oi (yielded ops a.tmps) = true then Oper.wp P oi a w K Q else K (a.put N undef) w := by
  refine call_ f args hw hN ?_ h
  have he := enters_ hf hname hb args w
  unfold execOp
  simp [hop, resolve, Deferred.ofValue, invoke, hv, hargs, he]
end Go.Proofs.YtkgmoajdcibafaaDoor.P
end

-- written by a program of this session's (wip/pp)
namespace Go.Proofs.YtkgmoajdcibafaaDoor.P
open Go.RowKit Go.Proofs.YtkgmoajdcibafaaDoorW.PrintWords Go.Proofs.YtkgmoajdcibafaaDoorW.PrintLast Go.Proofs.YtkgmoajdcibafaaDoorW.PrintMore
attribute [local go_sem] max2_int min2_int max_two min_two max_three min_three max_four min_four str_geq str_gtr str_leq   -- for this text's walks alone
set_option linter.unusedVariables false
set_option linter.unusedSimpArgs false

/-! ### impl_Board_find_1: function 94 -/
def impl_Board_find_1.f (k : Nat) (a0_0 : ByteArray) (l0_1 : List (S123)) (a0_2 : Int) (a0_3 : Int) (a0_4 : Int) (a0_5 : Int) (a0_6 : Int) (l0_7 : List Int) (a0_8 : Bool) (a0_9 : Int) (a0_10 : Bool) (a1_0 : ByteArray) (l1_1 : List (S123)) (a1_2 : Int) : Option (Int) := (impl_CompareKeys.f k a0_0 l0_1 a0_2 a1_0 l1_1 a1_2).bind fun t103 => (some t103)
theorem impl_Board_find_1.mono : ∀ a0 a1 a2 a3 a4 a5 a6 a7 a8 a9 a10 a11 a12 a13 k, LeO (impl_Board_find_1.f k a0 a1 a2 a3 a4 a5 a6 a7 a8 a9 a10 a11 a12 a13) (impl_Board_find_1.f (k + 1) a0 a1 a2 a3 a4 a5 a6 a7 a8 a9 a10 a11 a12 a13) := by
 intro a0 a1 a2 a3 a4 a5 a6 a7 a8 a9 a10 a11 a12 a13 k
 have m0 := @impl_CompareKeys.mono
 unfold impl_Board_find_1.f
 exact moZ
set_option maxHeartbeats 8000000 in
set_option maxRecDepth 100000 in
theorem impl_Board_find_1.calls (k : Nat) (a0_0 : ByteArray) (A0_1 : Option Addr) (c0_1 : Nat) (l0_1 : List (S123)) (a0_2 : Int) (a0_3 : Int) (a0_4 : Int) (a0_5 : Int) (a0_6 : Int) (A0_7 : Option Addr) (c0_7 : Nat) (l0_7 : List Int) (a0_8 : Bool) (a0_9 : Int) (a0_10 : Bool) (a1_0 : ByteArray) (A1_1 : Option Addr) (c1_1 : Nat) (l1_1 : List (S123)) (a1_2 : Int) (r : Int) (w : World) (hr0_1 : Kd.C k123 w A0_1 l0_1.length l0_1) (hc0_1 : l0_1.length ≤ c0_1) (hr0_7 : Kd.C (Kd.int .i64) w A0_7 l0_7.length l0_7) (hc0_7 : l0_7.length ≤ c0_7) (hr1_1 : Kd.C k123 w A1_1 l1_1.length l1_1) (hc1_1 : l1_1.length ≤ c1_1) (h : impl_Board_find_1.f k a0_0 l0_1 a0_2 a0_3 a0_4 a0_5 a0_6 l0_7 a0_8 a0_9 a0_10 a1_0 l1_1 a1_2 = some r) :
 Calls Tryd.prog 94 #[.agg #[.string a0_0, .slice A0_1 l0_1.length c0_1, .int .i64 a0_2, .int .i64 a0_3, .int .i64 a0_4, .int .i64 a0_5, .int .i64 a0_6, .slice A0_7 l0_7.length c0_7, .bool a0_8, .int .i64 a0_9, .bool a0_10], .agg #[.string a1_0, .slice A1_1 l1_1.length c1_1, .int .i64 a1_2]] w fun e w' => e = .returned (.int .i64 r) ∧ Below w.heap.size w w' := by
 have hu37 := Tryd.underlying37
 have hu32 := Tryd.underlying32
 have HR0_1 := aM hr0_1
 have HC0_1 := aM hc0_1
 clear hr0_1 hc0_1
 have HR0_7 := aM hr0_7
 have HC0_7 := aM hc0_7
 clear hr0_7 hc0_7
 have HR1_1 := aM hr1_1
 have HC1_1 := aM hc1_1
 clear hr1_1 hc1_1
 have HB := aM (Below.refl w.heap.size w)
 have H : ((impl_CompareKeys.f k a0_0 l0_1 a0_2 a1_0 l1_1 a1_2).bind fun t103 => (some t103)) = some r := h
 clear h
 obtain ⟨t103, A3, H⟩ := bS H; try dsimp only at H
 obtain rfl := Option.some.inj H
 go_enter Tryd.func94, Tryd.ntmps94
 go_wp2_with (first | ((with_reducible refine gate_dst (N := 2) rfl ?_); refine bX 2 37 #[.string a0_0, .slice A0_1 l0_1.length c0_1, .int .i64 a0_2, .int .i64 a0_3, .int .i64 a0_4, .int .i64 a0_5, .int .i64 a0_6, .slice A0_7 l0_7.length c0_7, .bool a0_8, .int .i64 a0_9, .bool a0_10] ?_; intro gb101 hg w4 hbox hb; have _ := aM (below_step hbZ hb); have _ := aM hbox; have _ := szZ hg; have _ := szZ hg; clear HB; rename_i HB BK101 GW101 GE101; clear hb hbox hg) | ((with_reducible refine gate_dst (N := 3) rfl ?_); refine bX 3 32 #[.string a1_0, .slice A1_1 l1_1.length c1_1, .int .i64 a1_2] ?_; intro gb102 hg w5 hbox hb; have _ := bB gb101 hb; have _ := aM (below_step hbZ hb); have _ := aM hbox; have _ := szZ hg; have _ := szZ hg; have ⟨_, _⟩ := nbB gb101 hg; clear BK101 HB; rename_i BK101 HB BK102 GW102 GE102 NB101_102 NB102_101; clear hb hbox hg; have hnb6 := NB101_102.out; have hnc6 := NB102_101.out; have hz7 := cellsZ11 BK101.out; have hz8 := cellsZ3 BK102.out) | ((with_reducible refine gate_callee (f := 72) rfl ?_); refine gL 8 Tryd.func72 #[.agg #[.string a0_0, .slice A0_1 l0_1.length c0_1, .int .i64 a0_2], .agg #[.string a1_0, .slice A1_1 l1_1.length c1_1, .int .i64 a1_2]] ?_; (with_reducible refine (impl_CompareKeys.calls k a0_0 _ _ l0_1 a0_2 a1_0 _ _ l1_1 a1_2 t103 _ ?side1 ?side2 ?side3 ?side4 A3.out).mono ?_); (case side1 => exact (cZ (Kd.C_below HR0_1.out HB.out))); (case side2 => exact HC0_1.out); (case side3 => exact (cZ (Kd.C_below HR1_1.out HB.out))); (case side4 => exact HC1_1.out); rintro e w9 ⟨rfl, hb⟩; refine ⟨_, rfl, ?_⟩; have _ := bB gb101 hb; have _ := bB gb102 hb; have _ := aM (below_step hbZ hb); clear BK101 BK102 HB; rename_i BK101 BK102 HB; (try clear hb)))
 go_ret
 exact ⟨z674d, zcb41⟩

end Go.Proofs.YtkgmoajdcibafaaDoor.P

-- written by a program of this session's (wip/pp)
namespace Go.Proofs.YtkgmoajdcibafaaDoor.P
open Go.RowKit Go.Proofs.YtkgmoajdcibafaaDoorW.PrintWords Go.Proofs.YtkgmoajdcibafaaDoorW.PrintLast Go.Proofs.YtkgmoajdcibafaaDoorW.PrintMore
attribute [local go_sem] max2_int min2_int max_two min_two max_three min_three max_four min_four str_geq str_gtr str_leq   -- for this text's walks alone
set_option linter.unusedVariables false
set_option linter.unusedSimpArgs false

/-! ### impl_Key_with_impl_Board_find_1: function 10093094 -/
def impl_Key_with_impl_Board_find_1.l0 : Nat → List (S37) → Int → Int → Int → ByteArray → List (S123) → Int → Option (Int × Bool)
 | 0, _, _, _, _, _, _, _ => none
 | k + 1, x0, x8, x9, x10, x102000, x102001, x102002 => if x9 < x10 then (if 0 ≤ (wrap64 ((IntKind.u64.wrap (wrap64 (x9 + x10))) / 2)) then (if (wrap64 ((IntKind.u64.wrap (wrap64 (x9 + x10))) / 2)) < (x0.length : Int) then ((impl_Board_find_1.f k ((rd_T37 x0 (wrap64 ((IntKind.u64.wrap (wrap64 (x9 + x10))) / 2))).f0.f0) ((rd_T37 x0 (wrap64 ((IntKind.u64.wrap (wrap64 (x9 + x10))) / 2))).f0.f1) ((rd_T37 x0 (wrap64 ((IntKind.u64.wrap (wrap64 (x9 + x10))) / 2))).f0.f2) ((rd_T37 x0 (wrap64 ((IntKind.u64.wrap (wrap64 (x9 + x10))) / 2))).f1.f0) ((rd_T37 x0 (wrap64 ((IntKind.u64.wrap (wrap64 (x9 + x10))) / 2))).f1.f1) ((rd_T37 x0 (wrap64 ((IntKind.u64.wrap (wrap64 (x9 + x10))) / 2))).f1.f2) ((rd_T37 x0 (wrap64 ((IntKind.u64.wrap (wrap64 (x9 + x10))) / 2))).f1.f3) ((rd_T37 x0 (wrap64 ((IntKind.u64.wrap (wrap64 (x9 + x10))) / 2))).f1.f4) ((rd_T37 x0 (wrap64 ((IntKind.u64.wrap (wrap64 (x9 + x10))) / 2))).f1.f5) ((rd_T37 x0 (wrap64 ((IntKind.u64.wrap (wrap64 (x9 + x10))) / 2))).f2) ((rd_T37 x0 (wrap64 ((IntKind.u64.wrap (wrap64 (x9 + x10))) / 2))).f3) x102000 x102001 x102002).bind fun t103 => (if t103 < 0 then (impl_Key_with_impl_Board_find_1.l0 k x0 x8 (wrap64 ((wrap64 ((IntKind.u64.wrap (wrap64 (x9 + x10))) / 2)) + 1)) x10 x102000 x102001 x102002) else (impl_Key_with_impl_Board_find_1.l0 k x0 x8 x9 (wrap64 ((IntKind.u64.wrap (wrap64 (x9 + x10))) / 2)) x102000 x102001 x102002))) else (none)) else (none)) else (if x9 < x8 then (if 0 ≤ x9 then (if x9 < (x0.length : Int) then ((impl_Board_find_1.f k ((rd_T37 x0 x9).f0.f0) ((rd_T37 x0 x9).f0.f1) ((rd_T37 x0 x9).f0.f2) ((rd_T37 x0 x9).f1.f0) ((rd_T37 x0 x9).f1.f1) ((rd_T37 x0 x9).f1.f2) ((rd_T37 x0 x9).f1.f3) ((rd_T37 x0 x9).f1.f4) ((rd_T37 x0 x9).f1.f5) ((rd_T37 x0 x9).f2) ((rd_T37 x0 x9).f3) x102000 x102001 x102002).bind fun t105 => (some (x9, (t105 == 0)))) else (none)) else (none)) else (some (x9, false)))
def impl_Key_with_impl_Board_find_1.f (k : Nat) (l0 : List (S37)) (a1_0 : ByteArray) (l1_1 : List (S123)) (a1_2 : Int)  : Option (Int × Bool) := impl_Key_with_impl_Board_find_1.l0 k l0 (l0.length : Int) 0 (l0.length : Int) a1_0 l1_1 a1_2
theorem impl_Key_with_impl_Board_find_1.mono_l : ∀ k, (∀ y0 y1 y2 y3 y4 y5 y6, LeO (impl_Key_with_impl_Board_find_1.l0 k y0 y1 y2 y3 y4 y5 y6) (impl_Key_with_impl_Board_find_1.l0 (k + 1) y0 y1 y2 y3 y4 y5 y6))
 | 0 => fun _ _ _ _ _ _ _ r h => by simp [impl_Key_with_impl_Board_find_1.l0] at h
 | k + 1 => by
  have ih0 := impl_Key_with_impl_Board_find_1.mono_l k; have m0 := @impl_Board_find_1.mono
  · intro y0 y1 y2 y3 y4 y5 y6
    unfold impl_Key_with_impl_Board_find_1.l0
    exact moZ
theorem impl_Key_with_impl_Board_find_1.mono : ∀ a0 a1 a2 a3 k, LeO (impl_Key_with_impl_Board_find_1.f k a0 a1 a2 a3) (impl_Key_with_impl_Board_find_1.f (k + 1) a0 a1 a2 a3) := by
 intro a0 a1 a2 a3 k
 have ih0 := impl_Key_with_impl_Board_find_1.mono_l k
 have m0 := @impl_Board_find_1.mono
 unfold impl_Key_with_impl_Board_find_1.f
 exact moZ
def impl_Key_with_impl_Board_find_1.T5 : Bool × List (List Nat × List Nat) := (true, [([], []), ([], []), ([], []), ([1, 2], [1, 2]), ([3], [3]), ([], []), ([0, 4, 5], [0, 4, 5]), ([6], [6])])
def impl_Key_with_impl_Board_find_1.B5 : List Nat := [0, 0, 0, 6, 14, 0, 63, 127]
theorem impl_Key_with_impl_Board_find_1.tab5 : rtab .any (opsOf Tryd.f93 5) = impl_Key_with_impl_Board_find_1.T5 := by kernel_rfl
theorem impl_Key_with_impl_Board_find_1.bits5 : waitsOk impl_Key_with_impl_Board_find_1.T5.2 impl_Key_with_impl_Board_find_1.B5 = true := by kernel_rfl
def impl_Key_with_impl_Board_find_1.T8 : Bool × List (List Nat × List Nat) := (true, [([], []), ([], []), ([], []), ([1, 2], [1, 2]), ([3], [3]), ([4], [4]), ([4], [4]), ([4], [4]), ([6, 7, 4], [4, 6, 7]), ([8, 4], [4, 8]), ([4], [4]), ([5, 9, 10, 4, 4], [4, 5, 9, 10]), ([11, 4], [4, 11]), ([4, 12], [4, 12]), ([0, 11, 0], [0]), ([13, 14, 0, 1, 2, 3, 4, 5, 6, 7, 8, 9, 10, 11, 12, 13, 14], [13])])
def impl_Key_with_impl_Board_find_1.B8 : List Nat := [0, 0, 0, 6, 14, 30, 30, 30, 222, 478, 30, 2046, 4094, 8190, 4095, 32767]
theorem impl_Key_with_impl_Board_find_1.tab8 : rtab .any (opsOf Tryd.f93 8) = impl_Key_with_impl_Board_find_1.T8 := by kernel_rfl
theorem impl_Key_with_impl_Board_find_1.bits8 : waitsOk impl_Key_with_impl_Board_find_1.T8.2 impl_Key_with_impl_Board_find_1.B8 = true := by kernel_rfl
set_option maxHeartbeats 8000000 in
set_option maxRecDepth 100000 in
theorem impl_Key_with_impl_Board_find_1.calls (k : Nat) (A0 : Option Addr) (c0 : Nat) (l0 : List (S37)) (a1_0 : ByteArray) (A1_1 : Option Addr) (c1_1 : Nat) (l1_1 : List (S123)) (a1_2 : Int)  (r1 : Int) (r2 : Bool) (w : World) (hr0 : Kd.C k37 w A0 l0.length l0) (hc0 : l0.length ≤ c0) (hr1_1 : Kd.C k123 w A1_1 l1_1.length l1_1) (hc1_1 : l1_1.length ≤ c1_1) (h : impl_Key_with_impl_Board_find_1.f k l0 a1_0 l1_1 a1_2 = some (r1, r2)) :
 Calls Tryd.prog 93 #[.slice A0 l0.length c0, .agg #[.string a1_0, .slice A1_1 l1_1.length c1_1, .int .i64 a1_2], .func (.func 94) #[] #[]] w fun e w' => e = .returned (.tuple #[.int .i64 r1, .bool r2]) ∧ Below w.heap.size w w' := by
 have hu32 := Tryd.underlying32
 have hu37 := Tryd.underlying37
 have HR0 := aM hr0
 have HC0 := aM hc0
 clear hr0 hc0
 have HR1_1 := aM hr1_1
 have HC1_1 := aM hc1_1
 clear hr1_1 hc1_1
 have HB := aM (Below.refl w.heap.size w)
 have H : (impl_Key_with_impl_Board_find_1.l0 k l0 (l0.length : Int) 0 (l0.length : Int) a1_0 l1_1 a1_2) = some (r1, r2) := h
 clear h
 have H' := aM H
 clear H
 go_enter Tryd.func93, Tryd.ntmps93
 go_wp2_with (first | ((with_reducible refine gate_dst (N := 4) rfl ?_); refine bX 4 32 #[.string a1_0, .slice A1_1 l1_1.length c1_1, .int .i64 a1_2] ?_; intro gb101 hg w4 hbox hb; have _ := aM (below_step hbZ hb); have _ := aM hbox; have _ := szZ hg; have _ := szZ hg; clear HB; rename_i HB BK101 GW101 GE101; clear hb hbox hg))
 go_loopg [9, 10] k (fun kq v9 v10 w' => ∃ (x9_1 : Int) (x10_1 : Int), v9 = .int .i64 x9_1 ∧ v10 = .int .i64 x10_1 ∧ Aside0 (impl_Key_with_impl_Board_find_1.l0 kq l0 (l0.length : Int) x9_1 x10_1 a1_0 l1_1 a1_2 = some (r1, r2)) ∧ Aside0 (kq ≤ k) ∧ Aside0 (w'.heap[gb101]? = some (.cells #[.string a1_0, (.slice A1_1 l1_1.length c1_1), .int .i64 a1_2] 32 (0, 0))) ∧ Aside0 (Below w.heap.size w w'))
 case atStart => exact ⟨(0), ((l0.length : Int)), z4458, z4458, H', ⟨Nat.le_refl _⟩, ⟨bkZ⟩, ⟨zcb41⟩⟩
 case round =>
  clear H'
  (try clear c1)
  obtain ⟨x9_1, x10_1, rfl, rfl, HA, HK1, BK101, HB⟩ := hrel
  cases gk with
  | zero => exact absurd HA.out (by simp [impl_Key_with_impl_Board_find_1.l0])
  | succ k1 =>
   have H := HA.out
   clear HA
   simp only [impl_Key_with_impl_Board_find_1.l0] at H
   by_cases c5 : x9_1 < x10_1
   · rw [if_pos c5] at H
     have c5b0 := dL c5
     clear c5
     obtain ⟨ji6, hji6⟩ : ∃ j_ : Int, (wrap64 ((IntKind.u64.wrap (wrap64 (x9_1 + x10_1))) / 2)) = j_ := ⟨_, rfl⟩
     replace H : (if 0 ≤ (ji6) then (if (ji6) < (l0.length : Int) then ((impl_Board_find_1.f k1 ((rd_T37 l0 (ji6)).f0.f0) ((rd_T37 l0 (ji6)).f0.f1) ((rd_T37 l0 (ji6)).f0.f2) ((rd_T37 l0 (ji6)).f1.f0) ((rd_T37 l0 (ji6)).f1.f1) ((rd_T37 l0 (ji6)).f1.f2) ((rd_T37 l0 (ji6)).f1.f3) ((rd_T37 l0 (ji6)).f1.f4) ((rd_T37 l0 (ji6)).f1.f5) ((rd_T37 l0 (ji6)).f2) ((rd_T37 l0 (ji6)).f3) a1_0 l1_1 a1_2).bind fun t103 => (if t103 < 0 then (impl_Key_with_impl_Board_find_1.l0 k1 l0 (l0.length : Int) (wrap64 ((ji6) + 1)) x10_1 a1_0 l1_1 a1_2) else (impl_Key_with_impl_Board_find_1.l0 k1 l0 (l0.length : Int) x9_1 ji6 a1_0 l1_1 a1_2))) else (none)) else (none)) = some (r1, r2) := by first | (rw [hji6] at H; exact H) | (simp only [hji6] at H ⊢; exact H)
     have hji6w : (IntKind.i64.wrap ((IntKind.u64.wrap (wrap64 (x9_1 + x10_1))) / 2)) = ji6 := (i64_w _).trans hji6
     obtain ⟨c7b0, H⟩ := sE H
     obtain ⟨c8b0, H⟩ := sL H
     obtain ⟨t103, A9, H⟩ := bS H; try dsimp only at H
     by_cases c10 : t103 < 0
     · rw [if_pos c10] at H
       have c10b0 := dL c10
       clear c10
       have H' := aM H
       clear H
       try go_wp2
       have _ := aM (blk_drew BK101.out)
       have _ := aM (below_drew1 HB.out)
       clear BK101
       clear HB
       rename_i BK101 HB
       have p102 : 0 ≤ ((ji6) : Int) := of_decide_eq_true z1200
       have q102 : (ji6) < (l0.length : Int) := of_decide_eq_true z1200
       obtain ⟨ad102, A102_1, c102_1, A102_7, c102_7, e102, hx102_0, hx102_1, hx102_2, hx102_3, hx102_4, hx102_5, hx102_6, hx102_7, hx102_8, hx102_9, hx102_10, hl102_1, hi102_1, hl102_7, hi102_7⟩ := at_T37 HR0.out (ji6) p102 q102
       have hw102_10 := hx102_10
       have hw102_9 := hx102_9
       have hw102_8 := hx102_8
       have hw102_7 := hx102_7
       have hw102_6 := hx102_6
       have hw102_5 := hx102_5
       have hw102_4 := hx102_4
       have hw102_3 := hx102_3
       have hw102_2 := hx102_2
       have hw102_1 := hx102_1
       have hw102_0 := hx102_0
       cases e102
       have TW102_1 := aM hx102_1
       have TW102_7 := aM hx102_7
       replace hx102_0 := (HB.out.cell (World.block_lt_of_cell? w _ hx102_0)).trans hx102_0
       replace hx102_1 := (HB.out.cell (World.block_lt_of_cell? w _ hx102_1)).trans hx102_1
       replace hx102_2 := (HB.out.cell (World.block_lt_of_cell? w _ hx102_2)).trans hx102_2
       replace hx102_3 := (HB.out.cell (World.block_lt_of_cell? w _ hx102_3)).trans hx102_3
       replace hx102_4 := (HB.out.cell (World.block_lt_of_cell? w _ hx102_4)).trans hx102_4
       replace hx102_5 := (HB.out.cell (World.block_lt_of_cell? w _ hx102_5)).trans hx102_5
       replace hx102_6 := (HB.out.cell (World.block_lt_of_cell? w _ hx102_6)).trans hx102_6
       replace hx102_7 := (HB.out.cell (World.block_lt_of_cell? w _ hx102_7)).trans hx102_7
       replace hx102_8 := (HB.out.cell (World.block_lt_of_cell? w _ hx102_8)).trans hx102_8
       replace hx102_9 := (HB.out.cell (World.block_lt_of_cell? w _ hx102_9)).trans hx102_9
       replace hx102_10 := (HB.out.cell (World.block_lt_of_cell? w _ hx102_10)).trans hx102_10
       have HR102_1 := aM hi102_1
       have HC102_1 := aM hl102_1
       clear hi102_1 hl102_1
       have HR102_7 := aM hi102_7
       have HC102_7 := aM hl102_7
       clear hi102_7 hl102_7
       replace p102 := eq_true p102
       replace q102 := eq_true q102
       refine sA 8 impl_Key_with_impl_Board_find_1.tab5 impl_Key_with_impl_Board_find_1.bits5 (fun w' => w'.cell? ⟨gb101, 0, none⟩ = some (.string a1_0) ∧ w'.cell? ⟨gb101, 1, none⟩ = some (.slice A1_1 l1_1.length c1_1) ∧ w'.cell? ⟨gb101, 2, none⟩ = some (.int .i64 a1_2) ∧ w'.cell? (ad102.add (((ji6)).toNat * 11)) = some (.string ((rd_T37 l0 (ji6)).f0.f0)) ∧ w'.cell? ⟨(ad102.add (((ji6)).toNat * 11)).block, (ad102.add (((ji6)).toNat * 11)).off + 1, none⟩ = some (.slice A102_1 ((rd_T37 l0 (ji6)).f0.f1).length c102_1) ∧ w'.cell? ⟨(ad102.add (((ji6)).toNat * 11)).block, (ad102.add (((ji6)).toNat * 11)).off + 2, none⟩ = some (.int .i64 ((rd_T37 l0 (ji6)).f0.f2)) ∧ w'.cell? ⟨(ad102.add (((ji6)).toNat * 11)).block, (ad102.add (((ji6)).toNat * 11)).off + 3, none⟩ = some (.int .i64 ((rd_T37 l0 (ji6)).f1.f0)) ∧ w'.cell? ⟨(ad102.add (((ji6)).toNat * 11)).block, (ad102.add (((ji6)).toNat * 11)).off + 4, none⟩ = some (.int .i64 ((rd_T37 l0 (ji6)).f1.f1)) ∧ w'.cell? ⟨(ad102.add (((ji6)).toNat * 11)).block, (ad102.add (((ji6)).toNat * 11)).off + 5, none⟩ = some (.int .i64 ((rd_T37 l0 (ji6)).f1.f2)) ∧ w'.cell? ⟨(ad102.add (((ji6)).toNat * 11)).block, (ad102.add (((ji6)).toNat * 11)).off + 6, none⟩ = some (.int .i64 ((rd_T37 l0 (ji6)).f1.f3)) ∧ w'.cell? ⟨(ad102.add (((ji6)).toNat * 11)).block, (ad102.add (((ji6)).toNat * 11)).off + 7, none⟩ = some (.slice A102_7 ((rd_T37 l0 (ji6)).f1.f4).length c102_7) ∧ w'.cell? ⟨(ad102.add (((ji6)).toNat * 11)).block, (ad102.add (((ji6)).toNat * 11)).off + 8, none⟩ = some (.bool ((rd_T37 l0 (ji6)).f1.f5)) ∧ w'.cell? ⟨(ad102.add (((ji6)).toNat * 11)).block, (ad102.add (((ji6)).toNat * 11)).off + 9, none⟩ = some (.int .i64 ((rd_T37 l0 (ji6)).f2)) ∧ w'.cell? ⟨(ad102.add (((ji6)).toNat * 11)).block, (ad102.add (((ji6)).toNat * 11)).off + 10, none⟩ = some (.bool ((rd_T37 l0 (ji6)).f3))) [] (fun hHeld HT_ HW_ => ?_)
       generalize wr.drew = w11 at BK101 HB HR102_1 HR102_7 hx102_0 hx102_1 hx102_10 hx102_2 hx102_3 hx102_4 hx102_5 hx102_6 hx102_7 hx102_8 hx102_9 hHeld ⊢
       refine pA 0 24 HT_ ?_; refine pA 1 25 HT_ ?_; refine pA 2 26 HT_ ?_; refine pA 3 27 HT_ ?_; refine tA 4 28 HT_ HW_ hHeld ?_; refine tA 5 29 HT_ HW_ hHeld ?_; refine oA 6 30 HT_ (fun K hK => ?_)
       refine goesV_ Tryd.func94 (by kernel_rfl) rfl #[.agg #[.string ((rd_T37 l0 (ji6)).f0.f0), .slice A102_1 ((rd_T37 l0 (ji6)).f0.f1).length c102_1, .int .i64 ((rd_T37 l0 (ji6)).f0.f2), .int .i64 ((rd_T37 l0 (ji6)).f1.f0), .int .i64 ((rd_T37 l0 (ji6)).f1.f1), .int .i64 ((rd_T37 l0 (ji6)).f1.f2), .int .i64 ((rd_T37 l0 (ji6)).f1.f3), .slice A102_7 ((rd_T37 l0 (ji6)).f1.f4).length c102_7, .bool ((rd_T37 l0 (ji6)).f1.f5), .int .i64 ((rd_T37 l0 (ji6)).f2), .bool ((rd_T37 l0 (ji6)).f3)], .agg #[.string a1_0, .slice A1_1 l1_1.length c1_1, .int .i64 a1_2]] (by rfl) rfl rfl rfl (by (try simp only [List.map_toArray, List.map_cons, List.map_nil]); first | done | (simp only [hji6]; rfl) | rfl | (simp only [List.length_drop, List.length_take]; rfl)) ?_
       with_reducible refine (impl_Board_find_1.calls k1 ((rd_T37 l0 (ji6)).f0.f0) _ _ ((rd_T37 l0 (ji6)).f0.f1) ((rd_T37 l0 (ji6)).f0.f2) ((rd_T37 l0 (ji6)).f1.f0) ((rd_T37 l0 (ji6)).f1.f1) ((rd_T37 l0 (ji6)).f1.f2) ((rd_T37 l0 (ji6)).f1.f3) _ _ ((rd_T37 l0 (ji6)).f1.f4) ((rd_T37 l0 (ji6)).f1.f5) ((rd_T37 l0 (ji6)).f2) ((rd_T37 l0 (ji6)).f3) a1_0 _ _ l1_1 a1_2 t103 _ ?side1 ?side2 ?side3 ?side4 ?side5 ?side6 A9.out).mono ?_
       (case side1 => exact (cZ (Kd.C_below HR102_1.out HB.out)))
       (case side2 => exact HC102_1.out)
       (case side3 => exact (cZ (Kd.C_below HR102_7.out HB.out)))
       (case side4 => exact HC102_7.out)
       (case side5 => exact (cZ (Kd.C_below HR1_1.out HB.out)))
       (case side6 => exact HC1_1.out)
       rintro e w12 ⟨rfl, hb⟩
       refine ⟨_, rfl, ?_⟩
       have _ := bB gb101 hb
       have _ := aM (below_step hbZ hb)
       clear BK101
       clear HB
       rename_i BK101 HB
       (try clear hb)
       refine hK.out _ _ sZ (fun hHeld => ?_)
       clear hK K
       refine nA 30 ?_; refine pA 7 31 HT_ ?_
       refine done_ (done_of HT_.out (by kernel_rfl)) ?_
       try go_wp2
       go_roundg k1
       case measure => have := HK1.out; omega
       case rel => exact ⟨(wrap64 ((ji6) + 1)), (x10_1), (by first | rfl | (simp; done) | (simp only [← hji6] <;> (first | rfl | (simp; done))) | (simp [*]; done)), z4458, H', ⟨zfb39⟩, ⟨bkZ⟩, ⟨zcb41⟩⟩
     · rw [if_neg c10] at H
       have c10b0 := nL c10
       clear c10
       have H' := aM H
       clear H
       try go_wp2
       have _ := aM (blk_drew BK101.out)
       have _ := aM (below_drew1 HB.out)
       clear BK101
       clear HB
       rename_i BK101 HB
       have p102 : 0 ≤ ((ji6) : Int) := of_decide_eq_true z1200
       have q102 : (ji6) < (l0.length : Int) := of_decide_eq_true z1200
       obtain ⟨ad102, A102_1, c102_1, A102_7, c102_7, e102, hx102_0, hx102_1, hx102_2, hx102_3, hx102_4, hx102_5, hx102_6, hx102_7, hx102_8, hx102_9, hx102_10, hl102_1, hi102_1, hl102_7, hi102_7⟩ := at_T37 HR0.out (ji6) p102 q102
       have hw102_10 := hx102_10
       have hw102_9 := hx102_9
       have hw102_8 := hx102_8
       have hw102_7 := hx102_7
       have hw102_6 := hx102_6
       have hw102_5 := hx102_5
       have hw102_4 := hx102_4
       have hw102_3 := hx102_3
       have hw102_2 := hx102_2
       have hw102_1 := hx102_1
       have hw102_0 := hx102_0
       cases e102
       have TW102_1 := aM hx102_1
       have TW102_7 := aM hx102_7
       replace hx102_0 := (HB.out.cell (World.block_lt_of_cell? w _ hx102_0)).trans hx102_0
       replace hx102_1 := (HB.out.cell (World.block_lt_of_cell? w _ hx102_1)).trans hx102_1
       replace hx102_2 := (HB.out.cell (World.block_lt_of_cell? w _ hx102_2)).trans hx102_2
       replace hx102_3 := (HB.out.cell (World.block_lt_of_cell? w _ hx102_3)).trans hx102_3
       replace hx102_4 := (HB.out.cell (World.block_lt_of_cell? w _ hx102_4)).trans hx102_4
       replace hx102_5 := (HB.out.cell (World.block_lt_of_cell? w _ hx102_5)).trans hx102_5
       replace hx102_6 := (HB.out.cell (World.block_lt_of_cell? w _ hx102_6)).trans hx102_6
       replace hx102_7 := (HB.out.cell (World.block_lt_of_cell? w _ hx102_7)).trans hx102_7
       replace hx102_8 := (HB.out.cell (World.block_lt_of_cell? w _ hx102_8)).trans hx102_8
       replace hx102_9 := (HB.out.cell (World.block_lt_of_cell? w _ hx102_9)).trans hx102_9
       replace hx102_10 := (HB.out.cell (World.block_lt_of_cell? w _ hx102_10)).trans hx102_10
       have HR102_1 := aM hi102_1
       have HC102_1 := aM hl102_1
       clear hi102_1 hl102_1
       have HR102_7 := aM hi102_7
       have HC102_7 := aM hl102_7
       clear hi102_7 hl102_7
       replace p102 := eq_true p102
       replace q102 := eq_true q102
       refine sA 8 impl_Key_with_impl_Board_find_1.tab5 impl_Key_with_impl_Board_find_1.bits5 (fun w' => w'.cell? ⟨gb101, 0, none⟩ = some (.string a1_0) ∧ w'.cell? ⟨gb101, 1, none⟩ = some (.slice A1_1 l1_1.length c1_1) ∧ w'.cell? ⟨gb101, 2, none⟩ = some (.int .i64 a1_2) ∧ w'.cell? (ad102.add (((ji6)).toNat * 11)) = some (.string ((rd_T37 l0 (ji6)).f0.f0)) ∧ w'.cell? ⟨(ad102.add (((ji6)).toNat * 11)).block, (ad102.add (((ji6)).toNat * 11)).off + 1, none⟩ = some (.slice A102_1 ((rd_T37 l0 (ji6)).f0.f1).length c102_1) ∧ w'.cell? ⟨(ad102.add (((ji6)).toNat * 11)).block, (ad102.add (((ji6)).toNat * 11)).off + 2, none⟩ = some (.int .i64 ((rd_T37 l0 (ji6)).f0.f2)) ∧ w'.cell? ⟨(ad102.add (((ji6)).toNat * 11)).block, (ad102.add (((ji6)).toNat * 11)).off + 3, none⟩ = some (.int .i64 ((rd_T37 l0 (ji6)).f1.f0)) ∧ w'.cell? ⟨(ad102.add (((ji6)).toNat * 11)).block, (ad102.add (((ji6)).toNat * 11)).off + 4, none⟩ = some (.int .i64 ((rd_T37 l0 (ji6)).f1.f1)) ∧ w'.cell? ⟨(ad102.add (((ji6)).toNat * 11)).block, (ad102.add (((ji6)).toNat * 11)).off + 5, none⟩ = some (.int .i64 ((rd_T37 l0 (ji6)).f1.f2)) ∧ w'.cell? ⟨(ad102.add (((ji6)).toNat * 11)).block, (ad102.add (((ji6)).toNat * 11)).off + 6, none⟩ = some (.int .i64 ((rd_T37 l0 (ji6)).f1.f3)) ∧ w'.cell? ⟨(ad102.add (((ji6)).toNat * 11)).block, (ad102.add (((ji6)).toNat * 11)).off + 7, none⟩ = some (.slice A102_7 ((rd_T37 l0 (ji6)).f1.f4).length c102_7) ∧ w'.cell? ⟨(ad102.add (((ji6)).toNat * 11)).block, (ad102.add (((ji6)).toNat * 11)).off + 8, none⟩ = some (.bool ((rd_T37 l0 (ji6)).f1.f5)) ∧ w'.cell? ⟨(ad102.add (((ji6)).toNat * 11)).block, (ad102.add (((ji6)).toNat * 11)).off + 9, none⟩ = some (.int .i64 ((rd_T37 l0 (ji6)).f2)) ∧ w'.cell? ⟨(ad102.add (((ji6)).toNat * 11)).block, (ad102.add (((ji6)).toNat * 11)).off + 10, none⟩ = some (.bool ((rd_T37 l0 (ji6)).f3))) [] (fun hHeld HT_ HW_ => ?_)
       generalize wr.drew = w13 at BK101 HB HR102_1 HR102_7 hx102_0 hx102_1 hx102_10 hx102_2 hx102_3 hx102_4 hx102_5 hx102_6 hx102_7 hx102_8 hx102_9 hHeld ⊢
       refine pA 0 24 HT_ ?_; refine pA 1 25 HT_ ?_; refine pA 2 26 HT_ ?_; refine pA 3 27 HT_ ?_; refine tA 4 28 HT_ HW_ hHeld ?_; refine tA 5 29 HT_ HW_ hHeld ?_; refine oA 6 30 HT_ (fun K hK => ?_)
       refine goesV_ Tryd.func94 (by kernel_rfl) rfl #[.agg #[.string ((rd_T37 l0 (ji6)).f0.f0), .slice A102_1 ((rd_T37 l0 (ji6)).f0.f1).length c102_1, .int .i64 ((rd_T37 l0 (ji6)).f0.f2), .int .i64 ((rd_T37 l0 (ji6)).f1.f0), .int .i64 ((rd_T37 l0 (ji6)).f1.f1), .int .i64 ((rd_T37 l0 (ji6)).f1.f2), .int .i64 ((rd_T37 l0 (ji6)).f1.f3), .slice A102_7 ((rd_T37 l0 (ji6)).f1.f4).length c102_7, .bool ((rd_T37 l0 (ji6)).f1.f5), .int .i64 ((rd_T37 l0 (ji6)).f2), .bool ((rd_T37 l0 (ji6)).f3)], .agg #[.string a1_0, .slice A1_1 l1_1.length c1_1, .int .i64 a1_2]] (by rfl) rfl rfl rfl (by (try simp only [List.map_toArray, List.map_cons, List.map_nil]); first | done | (simp only [hji6]; rfl) | rfl | (simp only [List.length_drop, List.length_take]; rfl)) ?_
       with_reducible refine (impl_Board_find_1.calls k1 ((rd_T37 l0 (ji6)).f0.f0) _ _ ((rd_T37 l0 (ji6)).f0.f1) ((rd_T37 l0 (ji6)).f0.f2) ((rd_T37 l0 (ji6)).f1.f0) ((rd_T37 l0 (ji6)).f1.f1) ((rd_T37 l0 (ji6)).f1.f2) ((rd_T37 l0 (ji6)).f1.f3) _ _ ((rd_T37 l0 (ji6)).f1.f4) ((rd_T37 l0 (ji6)).f1.f5) ((rd_T37 l0 (ji6)).f2) ((rd_T37 l0 (ji6)).f3) a1_0 _ _ l1_1 a1_2 t103 _ ?side1 ?side2 ?side3 ?side4 ?side5 ?side6 A9.out).mono ?_
       (case side1 => exact (cZ (Kd.C_below HR102_1.out HB.out)))
       (case side2 => exact HC102_1.out)
       (case side3 => exact (cZ (Kd.C_below HR102_7.out HB.out)))
       (case side4 => exact HC102_7.out)
       (case side5 => exact (cZ (Kd.C_below HR1_1.out HB.out)))
       (case side6 => exact HC1_1.out)
       rintro e w14 ⟨rfl, hb⟩
       refine ⟨_, rfl, ?_⟩
       have _ := bB gb101 hb
       have _ := aM (below_step hbZ hb)
       clear BK101
       clear HB
       rename_i BK101 HB
       (try clear hb)
       refine hK.out _ _ sZ (fun hHeld => ?_)
       clear hK K
       refine nA 30 ?_; refine pA 7 31 HT_ ?_
       refine done_ (done_of HT_.out (by kernel_rfl)) ?_
       try go_wp2
       go_roundg k1
       case measure => have := HK1.out; omega
       case rel => exact ⟨(x9_1), (ji6), z4458, (by first | rfl | (simp; done) | (simp only [← hji6] <;> (first | rfl | (simp; done))) | (simp [*]; done)), H', ⟨zfb39⟩, ⟨bkZ⟩, ⟨zcb41⟩⟩
   · rw [if_neg c5] at H
     have c5b0 := nL c5
     clear c5
     by_cases c15 : x9_1 < (l0.length : Int)
     · rw [if_pos c15] at H
       have c15b0 := dL c15
       clear c15
       obtain ⟨c16b0, H⟩ := sE H
       obtain ⟨c17b0, H⟩ := sL H
       obtain ⟨t105, A18, H⟩ := bS H; try dsimp only at H
       simp only [Option.some.injEq, Prod.mk.injEq] at H
       obtain ⟨rfl, rfl⟩ := H
       try go_wp2
       have _ := aM (blk_drew BK101.out)
       have _ := aM (below_drew1 HB.out)
       clear BK101
       clear HB
       rename_i BK101 HB
       have p104 : 0 ≤ (x9_1 : Int) := of_decide_eq_true z1200
       have q104 : x9_1 < (l0.length : Int) := of_decide_eq_true z1200
       obtain ⟨ad104, A104_1, c104_1, A104_7, c104_7, e104, hx104_0, hx104_1, hx104_2, hx104_3, hx104_4, hx104_5, hx104_6, hx104_7, hx104_8, hx104_9, hx104_10, hl104_1, hi104_1, hl104_7, hi104_7⟩ := at_T37 HR0.out x9_1 p104 q104
       have hw104_10 := hx104_10
       have hw104_9 := hx104_9
       have hw104_8 := hx104_8
       have hw104_7 := hx104_7
       have hw104_6 := hx104_6
       have hw104_5 := hx104_5
       have hw104_4 := hx104_4
       have hw104_3 := hx104_3
       have hw104_2 := hx104_2
       have hw104_1 := hx104_1
       have hw104_0 := hx104_0
       cases e104
       have TW104_1 := aM hx104_1
       have TW104_7 := aM hx104_7
       replace hx104_0 := (HB.out.cell (World.block_lt_of_cell? w _ hx104_0)).trans hx104_0
       replace hx104_1 := (HB.out.cell (World.block_lt_of_cell? w _ hx104_1)).trans hx104_1
       replace hx104_2 := (HB.out.cell (World.block_lt_of_cell? w _ hx104_2)).trans hx104_2
       replace hx104_3 := (HB.out.cell (World.block_lt_of_cell? w _ hx104_3)).trans hx104_3
       replace hx104_4 := (HB.out.cell (World.block_lt_of_cell? w _ hx104_4)).trans hx104_4
       replace hx104_5 := (HB.out.cell (World.block_lt_of_cell? w _ hx104_5)).trans hx104_5
       replace hx104_6 := (HB.out.cell (World.block_lt_of_cell? w _ hx104_6)).trans hx104_6
       replace hx104_7 := (HB.out.cell (World.block_lt_of_cell? w _ hx104_7)).trans hx104_7
       replace hx104_8 := (HB.out.cell (World.block_lt_of_cell? w _ hx104_8)).trans hx104_8
       replace hx104_9 := (HB.out.cell (World.block_lt_of_cell? w _ hx104_9)).trans hx104_9
       replace hx104_10 := (HB.out.cell (World.block_lt_of_cell? w _ hx104_10)).trans hx104_10
       have HR104_1 := aM hi104_1
       have HC104_1 := aM hl104_1
       clear hi104_1 hl104_1
       have HR104_7 := aM hi104_7
       have HC104_7 := aM hl104_7
       clear hi104_7 hl104_7
       replace p104 := eq_true p104
       replace q104 := eq_true q104
       refine sA 16 impl_Key_with_impl_Board_find_1.tab8 impl_Key_with_impl_Board_find_1.bits8 (fun w' => w'.cell? ⟨gb101, 0, none⟩ = some (.string a1_0) ∧ w'.cell? ⟨gb101, 1, none⟩ = some (.slice A1_1 l1_1.length c1_1) ∧ w'.cell? ⟨gb101, 2, none⟩ = some (.int .i64 a1_2) ∧ w'.cell? (ad104.add ((x9_1).toNat * 11)) = some (.string ((rd_T37 l0 x9_1).f0.f0)) ∧ w'.cell? ⟨(ad104.add ((x9_1).toNat * 11)).block, (ad104.add ((x9_1).toNat * 11)).off + 1, none⟩ = some (.slice A104_1 ((rd_T37 l0 x9_1).f0.f1).length c104_1) ∧ w'.cell? ⟨(ad104.add ((x9_1).toNat * 11)).block, (ad104.add ((x9_1).toNat * 11)).off + 2, none⟩ = some (.int .i64 ((rd_T37 l0 x9_1).f0.f2)) ∧ w'.cell? ⟨(ad104.add ((x9_1).toNat * 11)).block, (ad104.add ((x9_1).toNat * 11)).off + 3, none⟩ = some (.int .i64 ((rd_T37 l0 x9_1).f1.f0)) ∧ w'.cell? ⟨(ad104.add ((x9_1).toNat * 11)).block, (ad104.add ((x9_1).toNat * 11)).off + 4, none⟩ = some (.int .i64 ((rd_T37 l0 x9_1).f1.f1)) ∧ w'.cell? ⟨(ad104.add ((x9_1).toNat * 11)).block, (ad104.add ((x9_1).toNat * 11)).off + 5, none⟩ = some (.int .i64 ((rd_T37 l0 x9_1).f1.f2)) ∧ w'.cell? ⟨(ad104.add ((x9_1).toNat * 11)).block, (ad104.add ((x9_1).toNat * 11)).off + 6, none⟩ = some (.int .i64 ((rd_T37 l0 x9_1).f1.f3)) ∧ w'.cell? ⟨(ad104.add ((x9_1).toNat * 11)).block, (ad104.add ((x9_1).toNat * 11)).off + 7, none⟩ = some (.slice A104_7 ((rd_T37 l0 x9_1).f1.f4).length c104_7) ∧ w'.cell? ⟨(ad104.add ((x9_1).toNat * 11)).block, (ad104.add ((x9_1).toNat * 11)).off + 8, none⟩ = some (.bool ((rd_T37 l0 x9_1).f1.f5)) ∧ w'.cell? ⟨(ad104.add ((x9_1).toNat * 11)).block, (ad104.add ((x9_1).toNat * 11)).off + 9, none⟩ = some (.int .i64 ((rd_T37 l0 x9_1).f2)) ∧ w'.cell? ⟨(ad104.add ((x9_1).toNat * 11)).block, (ad104.add ((x9_1).toNat * 11)).off + 10, none⟩ = some (.bool ((rd_T37 l0 x9_1).f3))) [] (fun hHeld HT_ HW_ => ?_)
       generalize wr.drew = w19 at BK101 HB HR104_1 HR104_7 hx104_0 hx104_1 hx104_10 hx104_2 hx104_3 hx104_4 hx104_5 hx104_6 hx104_7 hx104_8 hx104_9 hHeld ⊢
       refine pA 0 35 HT_ ?_; refine pA 1 36 HT_ ?_; refine pA 2 37 HT_ ?_; refine pA 3 38 HT_ ?_; refine pA 4 39 HT_ ?_; refine pA 5 40 HT_ ?_; refine pA 6 41 HT_ ?_; refine pA 7 42 HT_ ?_; refine pA 8 43 HT_ ?_; refine tA 9 44 HT_ HW_ hHeld ?_; refine tA 10 45 HT_ HW_ hHeld ?_; refine oA 11 46 HT_ (fun K hK => ?_)
       refine goesV_ Tryd.func94 (by kernel_rfl) rfl #[.agg #[.string ((rd_T37 l0 x9_1).f0.f0), .slice A104_1 ((rd_T37 l0 x9_1).f0.f1).length c104_1, .int .i64 ((rd_T37 l0 x9_1).f0.f2), .int .i64 ((rd_T37 l0 x9_1).f1.f0), .int .i64 ((rd_T37 l0 x9_1).f1.f1), .int .i64 ((rd_T37 l0 x9_1).f1.f2), .int .i64 ((rd_T37 l0 x9_1).f1.f3), .slice A104_7 ((rd_T37 l0 x9_1).f1.f4).length c104_7, .bool ((rd_T37 l0 x9_1).f1.f5), .int .i64 ((rd_T37 l0 x9_1).f2), .bool ((rd_T37 l0 x9_1).f3)], .agg #[.string a1_0, .slice A1_1 l1_1.length c1_1, .int .i64 a1_2]] (by rfl) rfl rfl rfl zee81 ?_
       with_reducible refine (impl_Board_find_1.calls k1 ((rd_T37 l0 x9_1).f0.f0) _ _ ((rd_T37 l0 x9_1).f0.f1) ((rd_T37 l0 x9_1).f0.f2) ((rd_T37 l0 x9_1).f1.f0) ((rd_T37 l0 x9_1).f1.f1) ((rd_T37 l0 x9_1).f1.f2) ((rd_T37 l0 x9_1).f1.f3) _ _ ((rd_T37 l0 x9_1).f1.f4) ((rd_T37 l0 x9_1).f1.f5) ((rd_T37 l0 x9_1).f2) ((rd_T37 l0 x9_1).f3) a1_0 _ _ l1_1 a1_2 t105 _ ?side1 ?side2 ?side3 ?side4 ?side5 ?side6 A18.out).mono ?_
       (case side1 => exact (cZ (Kd.C_below HR104_1.out HB.out)))
       (case side2 => exact HC104_1.out)
       (case side3 => exact (cZ (Kd.C_below HR104_7.out HB.out)))
       (case side4 => exact HC104_7.out)
       (case side5 => exact (cZ (Kd.C_below HR1_1.out HB.out)))
       (case side6 => exact HC1_1.out)
       rintro e w20 ⟨rfl, hb⟩
       refine ⟨_, rfl, ?_⟩
       have _ := bB gb101 hb
       have _ := aM (below_step hbZ hb)
       clear BK101
       clear HB
       rename_i BK101 HB
       (try clear hb)
       refine hK.out _ _ sZ (fun hHeld => ?_)
       clear hK K
       refine nA 46 ?_; refine pA 12 47 HT_ ?_; refine pA 13 48 HT_ ?_; refine pA 14 6 HT_ ?_; refine pA 15 7 HT_ ?_
       refine done_ (done_of HT_.out (by kernel_rfl)) ?_
       try go_wp2
       go_ret2
       exact ⟨z674d, zcb41⟩
     · rw [if_neg c15] at H
       have c15b0 := nL c15
       clear c15
       simp only [Option.some.injEq, Prod.mk.injEq] at H
       obtain ⟨rfl, rfl⟩ := H
       try go_wp2
       have _ := aM (blk_drew BK101.out)
       have _ := aM (below_drew1 HB.out)
       clear BK101
       clear HB
       rename_i BK101 HB
       refine sA 16 impl_Key_with_impl_Board_find_1.tab8 impl_Key_with_impl_Board_find_1.bits8 (fun w' => True) [] (fun hHeld HT_ HW_ => ?_)
       generalize wr.drew = w21 at BK101 HB hHeld ⊢
       refine pA 0 35 HT_ ?_; refine pA 1 36 HT_ ?_; refine pA 2 37 HT_ ?_; refine pA 3 38 HT_ ?_; refine pA 4 39 HT_ ?_; refine uA 5 40 HT_ ?_; refine uA 6 41 HT_ ?_; refine uA 7 42 HT_ ?_; refine uA 8 43 HT_ ?_; refine uA 9 44 HT_ ?_; refine uA 10 45 HT_ ?_; refine uA 11 46 HT_ ?_; refine uA 12 47 HT_ ?_; refine pA 13 48 HT_ ?_; refine pA 14 6 HT_ ?_; refine pA 15 7 HT_ ?_
       refine done_ (done_of HT_.out (by kernel_rfl)) ?_
       try go_wp2
       go_ret2
       exact ⟨z674d, zcb41⟩

end Go.Proofs.YtkgmoajdcibafaaDoor.P

-- written by a program of this session's (wip/pp)
namespace Go.Proofs.YtkgmoajdcibafaaDoor.P
open Go.RowKit Go.Proofs.YtkgmoajdcibafaaDoorW.PrintWords Go.Proofs.YtkgmoajdcibafaaDoorW.PrintLast Go.Proofs.YtkgmoajdcibafaaDoorW.PrintMore
attribute [local go_sem] max2_int min2_int max_two min_two max_three min_three max_four min_four str_geq str_gtr str_leq   -- for this text's walks alone
set_option linter.unusedVariables false
set_option linter.unusedSimpArgs false

/-! ### impl_Board_find: function 48 -/
def impl_Board_find.f (k : Nat) (a0_0 : Int) (a0_1 : Int) (a0_2 : Int) (l0_3 : List (S37)) (a1_0 : ByteArray) (l1_1 : List (S123)) (a1_2 : Int) : Option (Int × Bool) := (impl_Key_with_impl_Board_find_1.f k l0_3 a1_0 l1_1 a1_2).bind fun bt103 => (some (bt103.1, bt103.2))
theorem impl_Board_find.mono : ∀ a0 a1 a2 a3 a4 a5 a6 k, LeO (impl_Board_find.f k a0 a1 a2 a3 a4 a5 a6) (impl_Board_find.f (k + 1) a0 a1 a2 a3 a4 a5 a6) := by
 intro a0 a1 a2 a3 a4 a5 a6 k
 have m0 := @impl_Key_with_impl_Board_find_1.mono
 unfold impl_Board_find.f
 exact moZ
set_option maxHeartbeats 8000000 in
set_option maxRecDepth 100000 in
theorem impl_Board_find.calls (k : Nat) (a0_0 : Int) (a0_1 : Int) (a0_2 : Int) (A0_3 : Option Addr) (c0_3 : Nat) (l0_3 : List (S37)) (a1_0 : ByteArray) (A1_1 : Option Addr) (c1_1 : Nat) (l1_1 : List (S123)) (a1_2 : Int) (r1 : Int) (r2 : Bool) (w : World) (hr0_3 : Kd.C k37 w A0_3 l0_3.length l0_3) (hc0_3 : l0_3.length ≤ c0_3) (hr1_1 : Kd.C k123 w A1_1 l1_1.length l1_1) (hc1_1 : l1_1.length ≤ c1_1) (h : impl_Board_find.f k a0_0 a0_1 a0_2 l0_3 a1_0 l1_1 a1_2 = some (r1, r2)) :
 Calls Tryd.prog 48 #[.agg #[.int .i64 a0_0, .int .i64 a0_1, .int .i64 a0_2, .slice A0_3 l0_3.length c0_3], .agg #[.string a1_0, .slice A1_1 l1_1.length c1_1, .int .i64 a1_2]] w fun e w' => e = .returned (.tuple #[.int .i64 r1, .bool r2]) ∧ Below w.heap.size w w' := by
 have hu42 := Tryd.underlying42
 have hu32 := Tryd.underlying32
 have HR0_3 := aM hr0_3
 have HC0_3 := aM hc0_3
 clear hr0_3 hc0_3
 have HR1_1 := aM hr1_1
 have HC1_1 := aM hc1_1
 clear hr1_1 hc1_1
 have HB := aM (Below.refl w.heap.size w)
 have H : ((impl_Key_with_impl_Board_find_1.f k l0_3 a1_0 l1_1 a1_2).bind fun bt103 => (some (bt103.1, bt103.2))) = some (r1, r2) := h
 clear h
 obtain ⟨⟨t103, t104⟩, A3, H⟩ := bS H; try dsimp only at H
 simp only [Option.some.injEq, Prod.mk.injEq] at H
 obtain ⟨rfl, rfl⟩ := H
 go_enter Tryd.func48, Tryd.ntmps48
 go_wp2_with (first | ((with_reducible refine gate_dst (N := 2) rfl ?_); refine bX 2 42 #[.int .i64 a0_0, .int .i64 a0_1, .int .i64 a0_2, .slice A0_3 l0_3.length c0_3] ?_; intro gb101 hg w4 hbox hb; have _ := aM (below_step hbZ hb); have _ := aM hbox; have _ := szZ hg; have _ := szZ hg; clear HB; rename_i HB BK101 GW101 GE101; clear hb hbox hg) | ((with_reducible refine gate_dst (N := 3) rfl ?_); refine bX 3 32 #[.string a1_0, .slice A1_1 l1_1.length c1_1, .int .i64 a1_2] ?_; intro gb102 hg w5 hbox hb; have _ := bB gb101 hb; have _ := aM (below_step hbZ hb); have _ := aM hbox; have _ := szZ hg; have _ := szZ hg; have ⟨_, _⟩ := nbB gb101 hg; clear BK101 HB; rename_i BK101 HB BK102 GW102 GE102 NB101_102 NB102_101; clear hb hbox hg; have hnb6 := NB101_102.out; have hnc6 := NB102_101.out; have hz7 := cellsZ4 BK101.out; have hz8 := cellsZ3 BK102.out) | ((with_reducible refine gate_callee (f := 93) rfl ?_); refine gL 9 Tryd.func93 #[.slice A0_3 l0_3.length c0_3, .agg #[.string a1_0, .slice A1_1 l1_1.length c1_1, .int .i64 a1_2], .func (.func 94) #[] #[]] ?_; (with_reducible refine (impl_Key_with_impl_Board_find_1.calls k _ _ l0_3 a1_0 _ _ l1_1 a1_2  t103 t104 _ ?side1 ?side2 ?side3 ?side4 A3.out).mono ?_); (case side1 => exact (cZ (Kd.C_below HR0_3.out HB.out))); (case side2 => exact HC0_3.out); (case side3 => exact (cZ (Kd.C_below HR1_1.out HB.out))); (case side4 => exact HC1_1.out); rintro e w9 ⟨rfl, hb⟩; refine ⟨_, rfl, ?_⟩; have _ := bB gb101 hb; have _ := bB gb102 hb; have _ := aM (below_step hbZ hb); clear BK101 BK102 HB; rename_i BK101 BK102 HB; (try clear hb)))
 go_ret2
 exact ⟨z674d, zcb41⟩

end Go.Proofs.YtkgmoajdcibafaaDoor.P

-- written by a program of this session's (wip/pp)
namespace Go.Proofs.YtkgmoajdcibafaaDoor.P
open Go.RowKit Go.Proofs.YtkgmoajdcibafaaDoorW.PrintWords Go.Proofs.YtkgmoajdcibafaaDoorW.PrintLast Go.Proofs.YtkgmoajdcibafaaDoorW.PrintMore
attribute [local go_sem] max2_int min2_int max_two min_two max_three min_three max_four min_four str_geq str_gtr str_leq   -- for this text's walks alone
set_option linter.unusedVariables false
set_option linter.unusedSimpArgs false

/-! ### impl_Tag_101: function 101 -/
def impl_Tag_101.f (l0 : List (S123)) : Option ((List (S123))) := (some (([] : List (S123)) : List (S123))).bind fun y101 => (if y101.length + l0.length < 4398046511104 then (some (y101 ++ l0)) else (none))
set_option maxHeartbeats 8000000 in
set_option maxRecDepth 100000 in
theorem impl_Tag_101.callsN (A0 : Option Addr) (c0 : Nat) (l0 : List (S123)) (r : List (S123)) (w : World) (hr0 : Kd.C k123 w A0 l0.length l0) (hc0 : l0.length ≤ c0) (hn0 : A0 ≠ none) (h : impl_Tag_101.f l0 = some r) :
 Calls Tryd.prog 101 #[.slice A0 l0.length c0] w fun e w' => ∃ v0_ : Value, e = .returned (v0_) ∧ Kd.R k123 123 w' w.heap.size (fun _ => True) v0_ r ∧ Below w.heap.size w w' := by
 have HR0 := aM hr0
 have HC0 := aM hc0
 clear hr0 hc0
 have HB := aM (Below.refl w.heap.size w)
 have H : ((some (([] : List (S123)) : List (S123))).bind fun y101 => (if y101.length + l0.length < 4398046511104 then (some (y101 ++ l0)) else (none))) = some r := h
 clear h
 have hnil_ : ∀ W_ : World, (Go.binOp .eql 30 (.slice A0 l0.length c0) (.slice none 0 0)).run Tryd.prog W_ = .ok (.bool false) W_ := fun W_ => by have hz_ : A0.isNone = false := (by cases A0 with | none => exact absurd rfl hn0 | some _ => rfl); have hy_ := Go.Lib.run_eql_slice_nil (P := Tryd.prog) W_ 30 123 A0 l0.length c0 0 0 Tryd.underlying30; rw [hz_] at hy_; exact hy_
 obtain ⟨y101, hy101⟩ : ∃ y_ : List (S123), y_ = (([] : List (S123))) := ⟨_, rfl⟩
 first | (replace H := bindS H; rw [← hy101] at H; try dsimp only at H) | rw [← hy101] at H
 have Ny101 := aM hy101
 clear hy101
 obtain ⟨LMc2, H⟩ := sM H
 obtain ⟨y104, hy104⟩ : ∃ y_ : List (S123), y_ = (y101 ++ l0) := ⟨_, rfl⟩
 first | (replace H := bindS H; rw [← hy104] at H; try dsimp only at H) | rw [← hy104] at H
 have Ny104 := aM hy104
 clear hy104
 obtain rfl := Option.some.inj H
 go_enter Tryd.func101, Tryd.ntmps101
 go_wp2_with (first | ((with_reducible refine gate_dst (N := 5) rfl ?_); refine Kd.R_lit k123 _ 123 ?hg (N := 5) ?hd (xs := ([] : List (S123))) (inner := []) (ok := fun _ => True) (okp := fun _ => True) ?hr ?hp (fun _ hk => hk) trivial (Below.refl _ _) (Nat.le_refl _) (by simp) ?_; (case hd => rfl); (case hg => rfl); (case hr => first | (go_simp; done) | (go_simp; rfl)); (case hp => exact (Reps.none _ _)); intro v102 w3 ho4 hb hg_ hnew_; clear hg_ hnew_; (first | rw [← Ny101.out] at ho4 | (simp only [Int.reduceToNat] at ho4; rw [← Ny101.out] at ho4)); have _ := aM (Kd.R_lower ho4 (below_size hbZ)); have _ := aM (below_step hbZ hb); clear HB; rename_i HO103 HB; clear hb ho4) | ((with_reducible refine gate_builtin (b := .append) (xs := #[.tmp 5, .tmp 6]) rfl ?_); at_builtin; refine Kd.R_append_rows k123 (w0 := w) w.heap.size rfl (.tmp 5) (.tmp 6) 30 123 (.agg #[(.string ⟨#[]⟩), (.string ⟨#[]⟩)]) 32 rfl Tryd.underlying30 info123 rfl (by decide) (by omega) v102 y101 l0 _ _ _ (fun _ => True) (fun _ => False) rfl rfl ?aO ?aR (fun _ _ h => h) (fun _ h => h.elim) ?aF ?aB ?aS ?aL ?_; (case aR => repeat (first | exact (Kd.C_below HR0.out HB.out) | (with_reducible refine Kd.C_alloc ?_ _) | (with_reducible refine Kd.C_drewN ?_ _) | (with_reducible refine Kd.C_drew ?_))); (case aB => exact hbZ); (case aF => exact (fun _ _ => trivial)); (case aO => exact (rZ HO103.out)); (case aS => exact (below_size hbZ)); (case aL => have := LMc2.out; omega); intro v105 w5 ho hb hg hat; rw [← Ny104.out] at ho; have _ := aM hb; have _ := aM ho; clear HB HO103; rename_i HB HO106; clear ho hb hg hat))
 go_ret
 exact ⟨_, z674d, rZ HO106.out, z5acd⟩
set_option maxHeartbeats 400000 in
theorem impl_Tag_101.calls (A0 : Option Addr) (c0 : Nat) (l0 : List (S123)) (r : List (S123)) (w : World) (hr0 : Kd.C k123 w A0 l0.length l0) (hc0 : l0.length ≤ c0) (h : impl_Tag_101.f l0 = some r) :
 Calls Tryd.prog 101 #[.slice A0 l0.length c0] w fun e w' => ∃ v0_ : Value, e = .returned (v0_) ∧ Kd.R k123 123 w' w.heap.size (fun _ => True) v0_ r ∧ Below w.heap.size w w' := by
 by_cases hA_ : A0 = none
 · subst hA_
   have hl_ : l0 = [] := by
    rcases Nat.eq_zero_or_pos l0.length with hz | hz
    · exact List.eq_nil_of_length_eq_zero hz
    · obtain ⟨ad, e, _⟩ := hr0.2.2 hz; cases e
   subst hl_
   have hr_ : r = [] := by
    have h2 := h
    simp [impl_Tag_101.f] at h2
    first | exact h2 | exact h2.symm
   subst hr_
   have hnil_ := fun W_ : World => Go.Lib.run_eql_slice_nil (P := Tryd.prog) W_ 30 123 none 0 c0 0 0 Tryd.underlying30
   go_enter Tryd.func101, Tryd.ntmps101
   go_wp2
   go_ret
   exact ⟨_, rfl, Kd.R_nil _ _ _ _ _, Below.refl _ _⟩
 · exact impl_Tag_101.callsN A0 c0 l0 r w hr0 hc0 hA_ h

end Go.Proofs.YtkgmoajdcibafaaDoor.P

-- written by a program of this session's (wip/pp)
namespace Go.Proofs.YtkgmoajdcibafaaDoor.P
open Go.RowKit Go.Proofs.YtkgmoajdcibafaaDoorW.PrintWords Go.Proofs.YtkgmoajdcibafaaDoorW.PrintLast Go.Proofs.YtkgmoajdcibafaaDoorW.PrintMore
attribute [local go_sem] max2_int min2_int max_two min_two max_three min_three max_four min_four str_geq str_gtr str_leq   -- for this text's walks alone
set_option linter.unusedVariables false
set_option linter.unusedSimpArgs false

/-! ### impl_Key_cloned: function 68 -/
def impl_Key_cloned.f (a0_0 : ByteArray) (l0_1 : List (S123)) (a0_2 : Int) : Option (ByteArray × (List (S123)) × Int) := (impl_Tag_101.f l0_1).bind fun t103 => (some (a0_0, t103, a0_2))
set_option maxHeartbeats 8000000 in
set_option maxRecDepth 100000 in
theorem impl_Key_cloned.calls (a0_0 : ByteArray) (A0_1 : Option Addr) (c0_1 : Nat) (l0_1 : List (S123)) (a0_2 : Int) (r1 : ByteArray) (r2 : List (S123)) (r3 : Int) (w : World) (hr0_1 : Kd.C k123 w A0_1 l0_1.length l0_1) (hc0_1 : l0_1.length ≤ c0_1) (h : impl_Key_cloned.f a0_0 l0_1 a0_2 = some (r1, r2, r3)) :
 Calls Tryd.prog 68 #[.agg #[.string a0_0, .slice A0_1 l0_1.length c0_1, .int .i64 a0_2]] w fun e w' => ∃ v1_ : Value, e = .returned (.agg #[.string r1, v1_, .int .i64 r3]) ∧ Kd.R k123 123 w' w.heap.size (fun _ => True) v1_ r2 ∧ Below w.heap.size w w' := by
 have hu32 := Tryd.underlying32
 have HR0_1 := aM hr0_1
 have HC0_1 := aM hc0_1
 clear hr0_1 hc0_1
 have HB := aM (Below.refl w.heap.size w)
 have H : ((impl_Tag_101.f l0_1).bind fun t103 => (some (a0_0, t103, a0_2))) = some (r1, r2, r3) := h
 clear h
 obtain ⟨t103, A2, H⟩ := bS H; try dsimp only at H
 simp only [Option.some.injEq, Prod.mk.injEq] at H
 obtain ⟨rfl, rfl, rfl⟩ := H
 go_enter Tryd.func68, Tryd.ntmps68
 go_wp2_with (first | ((with_reducible refine gate_dst (N := 1) rfl ?_); refine bX 1 32 #[.string a0_0, .slice A0_1 l0_1.length c0_1, .int .i64 a0_2] ?_; intro gb101 hg w3 hbox hb; have _ := aM (below_step hbZ hb); have _ := aM hbox; have _ := szZ hg; have _ := szZ hg; clear HB; rename_i HB BK101 GW101 GE101; clear hb hbox hg) | ((with_reducible refine gate_dst (N := 2) rfl ?_); refine bX 2 32 #[.string (⟨#[]⟩ : ByteArray), .slice none 0 0, .int .i64 0] ?_; intro gb102 hg w4 hbox hb; have _ := bB gb101 hb; have _ := aM (below_step hbZ hb); have _ := aM hbox; have _ := szZ hg; have _ := szZ hg; have ⟨_, _⟩ := nbB gb101 hg; clear BK101 HB; rename_i BK101 HB BK102 GW102 GE102 NB101_102 NB102_101; clear hb hbox hg; have hnb5 := NB101_102.out; have hnc5 := NB102_101.out; have hz6 := cellsZ3 BK101.out) | ((with_reducible refine gate_callee (f := 101) rfl ?_); refine gL 5 Tryd.func101 #[.slice A0_1 l0_1.length c0_1] ?_; (with_reducible refine (impl_Tag_101.calls _ _ l0_1 t103 _ ?side1 ?side2 A2.out).mono ?_); (case side1 => exact (cZ (Kd.C_below HR0_1.out HB.out))); (case side2 => exact HC0_1.out); rintro e w7 ⟨v104, rfl, ho0, hb⟩; refine ⟨_, rfl, ?_⟩; have _ := aM (Kd.R_lower ho0 (below_size hbZ)); have _ := bB gb101 hb; have _ := bB gb102 hb; have _ := aM (below_step hbZ hb); clear BK101 BK102 HB; rename_i HO105 BK101 BK102 HB; (try clear hb); (try clear ho0); obtain ⟨Ao8, co8, eo8⟩ := Kd.R_slice HO105.out; subst eo8; have hz9 := cellsZ3 BK101.out; have hz10 := cellsZ3 BK102.out))
 refine bodyPost_ret (results_cell_row rfl _ _ gb102 32 #[.string a0_0, .slice Ao8 t103.length co8, .int .i64 a0_2] (0, 0) _ rfl bkZ Tryd.underlying32 rfl (by kernel_rfl)) rfl ?_
 exact ⟨_, z674d, by (with_reducible repeat (first | apply Kd.R_alloc | apply Kd.R_drewN | apply Kd.R_drew)); exact Kd.R_mono (Kd.R_far (p := ⟨gb102, 2, none⟩) (Kd.R_far (p := ⟨gb102, 1, none⟩) (Kd.R_far (p := ⟨gb102, 0, none⟩) (Kd.R_far (p := ⟨gb101, 1, none⟩) (Kd.R_types (Kd.R_types HO105.out BK101.out (by decide)) BK102.out (by decide)) (fun _ hk => hk.1.2) (.slice Ao8 t103.length co8)) (fun _ hk => hk.2) (.string a0_0)) (fun _ hk => hk.2) (.slice Ao8 t103.length co8)) (fun _ hk => hk.2) (.int .i64 a0_2)) (fun _ hk => trivial), zcb41⟩

end Go.Proofs.YtkgmoajdcibafaaDoor.P

-- written by a program of this session's (wip/pp)
namespace Go.Proofs.YtkgmoajdcibafaaDoor.P
open Go.RowKit Go.Proofs.YtkgmoajdcibafaaDoorW.PrintWords Go.Proofs.YtkgmoajdcibafaaDoorW.PrintLast Go.Proofs.YtkgmoajdcibafaaDoorW.PrintMore
attribute [local go_sem] max2_int min2_int max_two min_two max_three min_three max_four min_four str_geq str_gtr str_leq   -- for this text's walks alone
set_option linter.unusedVariables false
set_option linter.unusedSimpArgs false

/-! ### slices_Clone_int_int: function 69 -/
def slices_Clone_int_int.f (l0 : List Int) : Option (List Int) := (some (([] : List Int) : List Int)).bind fun y101 => (if y101.length + l0.length < 17592186044416 then (some (y101 ++ l0)) else (none))
set_option maxHeartbeats 8000000 in
set_option maxRecDepth 100000 in
theorem slices_Clone_int_int.callsN (A0 : Option Addr) (c0 : Nat) (l0 : List Int) (r : List Int) (w : World) (hr0 : Kd.C (Kd.int .i64) w A0 l0.length l0) (hc0 : l0.length ≤ c0) (hn0 : A0 ≠ none) (h : slices_Clone_int_int.f l0 = some r) :
 Calls Tryd.prog 69 #[.slice A0 l0.length c0] w fun e w' => ∃ v0_ : Value, e = .returned (v0_) ∧ Kd.R (Kd.int .i64) 3 w' w.heap.size (fun _ => True) v0_ r ∧ Below w.heap.size w w' := by
 have HR0 := aM hr0
 have HC0 := aM hc0
 clear hr0 hc0
 have HB := aM (Below.refl w.heap.size w)
 have H : ((some (([] : List Int) : List Int)).bind fun y101 => (if y101.length + l0.length < 17592186044416 then (some (y101 ++ l0)) else (none))) = some r := h
 clear h
 have hnil_ : ∀ W_ : World, (Go.binOp .eql 33 (.slice A0 l0.length c0) (.slice none 0 0)).run Tryd.prog W_ = .ok (.bool false) W_ := fun W_ => by have hz_ : A0.isNone = false := (by cases A0 with | none => exact absurd rfl hn0 | some _ => rfl); have hy_ := Go.Lib.run_eql_slice_nil (P := Tryd.prog) W_ 33 3 A0 l0.length c0 0 0 Tryd.underlying33; rw [hz_] at hy_; exact hy_
 obtain ⟨y101, hy101⟩ : ∃ y_ : List Int, y_ = (([] : List Int)) := ⟨_, rfl⟩
 first | (replace H := bindS H; rw [← hy101] at H; try dsimp only at H) | rw [← hy101] at H
 have Ny101 := aM hy101
 clear hy101
 obtain ⟨LMc2, H⟩ := sM H
 obtain ⟨y104, hy104⟩ : ∃ y_ : List Int, y_ = (y101 ++ l0) := ⟨_, rfl⟩
 first | (replace H := bindS H; rw [← hy104] at H; try dsimp only at H) | rw [← hy104] at H
 have Ny104 := aM hy104
 clear hy104
 obtain rfl := Option.some.inj H
 go_enter Tryd.func69, Tryd.ntmps69
 go_wp2_with (first | ((with_reducible refine gate_dst (N := 5) rfl ?_); refine Kd.R_lit (Kd.int .i64) _ 3 ?hg (N := 5) ?hd (xs := ([] : List Int)) (inner := []) (ok := fun _ => True) (okp := fun _ => True) ?hr ?hp (fun _ hk => hk) trivial (Below.refl _ _) (Nat.le_refl _) (by simp) ?_; (case hd => rfl); (case hg => rfl); (case hr => first | (go_simp; done) | (go_simp; rfl)); (case hp => exact (Reps.none _ _)); intro v102 w3 ho4 hb hg_ hnew_; clear hg_ hnew_; (first | rw [← Ny101.out] at ho4 | (simp only [Int.reduceToNat] at ho4; rw [← Ny101.out] at ho4)); have _ := aM (Kd.R_lower ho4 (below_size hbZ)); have _ := aM (below_step hbZ hb); clear HB; rename_i HO103 HB; clear hb ho4) | ((with_reducible refine gate_builtin (b := .append) (xs := #[.tmp 5, .tmp 6]) rfl ?_); at_builtin; refine Kd.R_append_rows (Kd.int .i64) (w0 := w) w.heap.size rfl (.tmp 5) (.tmp 6) 33 3 (.int .i64 0) 8 rfl Tryd.underlying33 info3 rfl (by decide) (by omega) v102 y101 l0 _ _ _ (fun _ => True) (fun _ => False) rfl rfl ?aO ?aR (fun _ _ h => h) (fun _ h => h.elim) ?aF ?aB ?aS ?aL ?_; (case aR => repeat (first | exact (Kd.C_below HR0.out HB.out) | (with_reducible refine Kd.C_alloc ?_ _) | (with_reducible refine Kd.C_drewN ?_ _) | (with_reducible refine Kd.C_drew ?_))); (case aB => exact hbZ); (case aF => exact (fun _ _ => trivial)); (case aO => exact (rZ HO103.out)); (case aS => exact (below_size hbZ)); (case aL => have := LMc2.out; omega); intro v105 w5 ho hb hg hat; rw [← Ny104.out] at ho; have _ := aM hb; have _ := aM ho; clear HB HO103; rename_i HB HO106; clear ho hb hg hat))
 go_ret
 exact ⟨_, z674d, rZ HO106.out, z5acd⟩
set_option maxHeartbeats 400000 in
theorem slices_Clone_int_int.calls (A0 : Option Addr) (c0 : Nat) (l0 : List Int) (r : List Int) (w : World) (hr0 : Kd.C (Kd.int .i64) w A0 l0.length l0) (hc0 : l0.length ≤ c0) (h : slices_Clone_int_int.f l0 = some r) :
 Calls Tryd.prog 69 #[.slice A0 l0.length c0] w fun e w' => ∃ v0_ : Value, e = .returned (v0_) ∧ Kd.R (Kd.int .i64) 3 w' w.heap.size (fun _ => True) v0_ r ∧ Below w.heap.size w w' := by
 by_cases hA_ : A0 = none
 · subst hA_
   have hl_ : l0 = [] := by
    rcases Nat.eq_zero_or_pos l0.length with hz | hz
    · exact List.eq_nil_of_length_eq_zero hz
    · obtain ⟨ad, e, _⟩ := hr0.2.2 hz; cases e
   subst hl_
   have hr_ : r = [] := by
    have h2 := h
    simp [slices_Clone_int_int.f] at h2
    first | exact h2 | exact h2.symm
   subst hr_
   have hnil_ := fun W_ : World => Go.Lib.run_eql_slice_nil (P := Tryd.prog) W_ 33 3 none 0 c0 0 0 Tryd.underlying33
   go_enter Tryd.func69, Tryd.ntmps69
   go_wp2
   go_ret
   exact ⟨_, rfl, Kd.R_nil _ _ _ _ _, Below.refl _ _⟩
 · exact slices_Clone_int_int.callsN A0 c0 l0 r w hr0 hc0 hA_ h

end Go.Proofs.YtkgmoajdcibafaaDoor.P

-- written by a program of this session's (wip/pp)
namespace Go.Proofs.YtkgmoajdcibafaaDoor.P
open Go.RowKit Go.Proofs.YtkgmoajdcibafaaDoorW.PrintWords Go.Proofs.YtkgmoajdcibafaaDoorW.PrintLast Go.Proofs.YtkgmoajdcibafaaDoorW.PrintMore
attribute [local go_sem] max2_int min2_int max_two min_two max_three min_three max_four min_four str_geq str_gtr str_leq   -- for this text's walks alone
set_option linter.unusedVariables false
set_option linter.unusedSimpArgs false

/-! ### impl_Win_cloned: function 49 -/
def impl_Win_cloned.f (a0_0 : ByteArray) (l0_1 : List (S123)) (a0_2 : Int) (a0_3 : Int) (a0_4 : Int) (a0_5 : Int) (a0_6 : Int) (l0_7 : List Int) (a0_8 : Bool) (a0_9 : Int) (a0_10 : Bool) : Option (ByteArray × (List (S123)) × Int × Int × Int × Int × Int × List Int × Bool × Int × Bool) := (impl_Key_cloned.f a0_0 l0_1 a0_2).bind fun bt103 => ((slices_Clone_int_int.f l0_7).bind fun t108 => (some (bt103.1, bt103.2.1, bt103.2.2, a0_3, a0_4, a0_5, a0_6, t108, a0_8, a0_9, a0_10)))
set_option maxHeartbeats 8000000 in
set_option maxRecDepth 100000 in
theorem impl_Win_cloned.calls (a0_0 : ByteArray) (A0_1 : Option Addr) (c0_1 : Nat) (l0_1 : List (S123)) (a0_2 : Int) (a0_3 : Int) (a0_4 : Int) (a0_5 : Int) (a0_6 : Int) (A0_7 : Option Addr) (c0_7 : Nat) (l0_7 : List Int) (a0_8 : Bool) (a0_9 : Int) (a0_10 : Bool) (r1 : ByteArray) (r2 : List (S123)) (r3 : Int) (r4 : Int) (r5 : Int) (r6 : Int) (r7 : Int) (r8 : List Int) (r9 : Bool) (r10 : Int) (r11 : Bool) (w : World) (hr0_1 : Kd.C k123 w A0_1 l0_1.length l0_1) (hc0_1 : l0_1.length ≤ c0_1) (hr0_7 : Kd.C (Kd.int .i64) w A0_7 l0_7.length l0_7) (hc0_7 : l0_7.length ≤ c0_7) (h : impl_Win_cloned.f a0_0 l0_1 a0_2 a0_3 a0_4 a0_5 a0_6 l0_7 a0_8 a0_9 a0_10 = some (r1, r2, r3, r4, r5, r6, r7, r8, r9, r10, r11)) :
 Calls Tryd.prog 49 #[.agg #[.string a0_0, .slice A0_1 l0_1.length c0_1, .int .i64 a0_2, .int .i64 a0_3, .int .i64 a0_4, .int .i64 a0_5, .int .i64 a0_6, .slice A0_7 l0_7.length c0_7, .bool a0_8, .int .i64 a0_9, .bool a0_10]] w fun e w' => ∃ v1_ v7_ : Value, e = .returned (.agg #[.string r1, v1_, .int .i64 r3, .int .i64 r4, .int .i64 r5, .int .i64 r6, .int .i64 r7, v7_, .bool r9, .int .i64 r10, .bool r11]) ∧ Kd.R k123 123 w' w.heap.size (fun _ => True) v1_ r2 ∧ Kd.R (Kd.int .i64) 3 w' w.heap.size (fun _ => True) v7_ r8 ∧ Below w.heap.size w w' := by
 have hu37 := Tryd.underlying37
 have hu32 := Tryd.underlying32
 have HR0_1 := aM hr0_1
 have HC0_1 := aM hc0_1
 clear hr0_1 hc0_1
 have HR0_7 := aM hr0_7
 have HC0_7 := aM hc0_7
 clear hr0_7 hc0_7
 have HB := aM (Below.refl w.heap.size w)
 have H : ((impl_Key_cloned.f a0_0 l0_1 a0_2).bind fun bt103 => ((slices_Clone_int_int.f l0_7).bind fun t108 => (some (bt103.1, bt103.2.1, bt103.2.2, a0_3, a0_4, a0_5, a0_6, t108, a0_8, a0_9, a0_10)))) = some (r1, r2, r3, r4, r5, r6, r7, r8, r9, r10, r11) := h
 clear h
 obtain ⟨⟨t103, t104, t107⟩, A2, H⟩ := bS H; try dsimp only at H
 obtain ⟨t108, A3, H⟩ := bS H; try dsimp only at H
 simp only [Option.some.injEq, Prod.mk.injEq] at H
 obtain ⟨rfl, rfl, rfl, rfl, rfl, rfl, rfl, rfl, rfl, rfl, rfl⟩ := H
 go_enter Tryd.func49, Tryd.ntmps49
 go_wp2_with (first | ((with_reducible refine gate_dst (N := 1) rfl ?_); refine bX 1 37 #[.string a0_0, .slice A0_1 l0_1.length c0_1, .int .i64 a0_2, .int .i64 a0_3, .int .i64 a0_4, .int .i64 a0_5, .int .i64 a0_6, .slice A0_7 l0_7.length c0_7, .bool a0_8, .int .i64 a0_9, .bool a0_10] ?_; intro gb101 hg w4 hbox hb; have _ := aM (below_step hbZ hb); have _ := aM hbox; have _ := szZ hg; have _ := szZ hg; clear HB; rename_i HB BK101 GW101 GE101; clear hb hbox hg) | ((with_reducible refine gate_dst (N := 2) rfl ?_); refine bX 2 37 #[.string (⟨#[]⟩ : ByteArray), .slice none 0 0, .int .i64 0, .int .i64 0, .int .i64 0, .int .i64 0, .int .i64 0, .slice none 0 0, .bool false, .int .i64 0, .bool false] ?_; intro gb102 hg w5 hbox hb; have _ := bB gb101 hb; have _ := aM (below_step hbZ hb); have _ := aM hbox; have _ := szZ hg; have _ := szZ hg; have ⟨_, _⟩ := nbB gb101 hg; clear BK101 HB; rename_i BK101 HB BK102 GW102 GE102 NB101_102 NB102_101; clear hb hbox hg; have hnb6 := NB101_102.out; have hnc6 := NB102_101.out; have hz7 := cellsZ11 BK101.out) | ((with_reducible refine gate_callee (f := 68) rfl ?_); refine gL 5 Tryd.func68 #[.agg #[.string a0_0, .slice A0_1 l0_1.length c0_1, .int .i64 a0_2]] ?_; (with_reducible refine (impl_Key_cloned.calls a0_0 _ _ l0_1 a0_2 t103 t104 t107 _ ?side1 ?side2 A2.out).mono ?_); (case side1 => exact (cZ (Kd.C_below HR0_1.out HB.out))); (case side2 => exact HC0_1.out); rintro e w8 ⟨v105, rfl, ho0, hb⟩; refine ⟨_, rfl, ?_⟩; have _ := aM (Kd.R_lower ho0 (below_size hbZ)); have _ := bB gb101 hb; have _ := bB gb102 hb; have _ := aM (below_step hbZ hb); clear BK101 BK102 HB; rename_i HO106 BK101 BK102 HB; (try clear hb); (try clear ho0); have hz9 := cellsZ11 BK101.out; obtain ⟨Ao10, co10, eo10⟩ := Kd.R_slice HO106.out; subst eo10) | ((with_reducible refine gate_callee (f := 69) rfl ?_); refine gL 10 Tryd.func69 #[.slice A0_7 l0_7.length c0_7] ?_; (with_reducible refine (slices_Clone_int_int.calls _ _ l0_7 t108 _ ?side1 ?side2 A3.out).mono ?_); (case side1 => exact Kd.C_below HR0_7.out hbZ); (case side2 => exact HC0_7.out); rintro e w11 ⟨v109, rfl, ho0, hb⟩; refine ⟨_, rfl, ?_⟩; have _ := aM (Kd.R_below (rZ (rF3 HO106.out BK101.out)) hb); have _ := aM (Kd.R_lower ho0 (below_size hbZ)); have _ := aM (blk_below (g := gb101) (o := .cells #[.string t103, .slice Ao10 t104.length co10, .int .i64 t107, .int .i64 a0_3, .int .i64 a0_4, .int .i64 a0_5, .int .i64 a0_6, .slice A0_7 l0_7.length c0_7, .bool a0_8, .int .i64 a0_9, .bool a0_10] 37 (0, 0)) bkZ hb); have _ := bB gb102 hb; have _ := aM (below_step hbZ hb); clear HO106 BK101 BK102 HB; rename_i HO106 HO110 BK101 BK102 HB; (try clear hb); (try clear ho0); obtain ⟨Ao12, co12, eo12⟩ := Kd.R_slice HO110.out; subst eo12; have hz13 := cellsZ11 BK101.out; have hz14 := cellsZ11 BK102.out))
 refine bodyPost_ret (results_cell_row rfl _ _ gb102 37 #[.string t103, .slice Ao10 t104.length co10, .int .i64 t107, .int .i64 a0_3, .int .i64 a0_4, .int .i64 a0_5, .int .i64 a0_6, .slice Ao12 t108.length co12, .bool a0_8, .int .i64 a0_9, .bool a0_10] (0, 0) _ rfl bkZ Tryd.underlying37 rfl (by kernel_rfl)) rfl ?_
 exact ⟨_, _, z674d, by (with_reducible repeat (first | apply Kd.R_alloc | apply Kd.R_drewN | apply Kd.R_drew)); exact Kd.R_mono (Kd.R_far (p := ⟨gb102, 10, none⟩) (Kd.R_far (p := ⟨gb102, 9, none⟩) (Kd.R_far (p := ⟨gb102, 8, none⟩) (Kd.R_far (p := ⟨gb102, 7, none⟩) (Kd.R_far (p := ⟨gb102, 6, none⟩) (Kd.R_far (p := ⟨gb102, 5, none⟩) (Kd.R_far (p := ⟨gb102, 4, none⟩) (Kd.R_far (p := ⟨gb102, 3, none⟩) (Kd.R_far (p := ⟨gb102, 2, none⟩) (Kd.R_far (p := ⟨gb102, 1, none⟩) (Kd.R_far (p := ⟨gb102, 0, none⟩) (Kd.R_far (p := ⟨gb101, 7, none⟩) (Kd.R_types (Kd.R_types HO106.out BK101.out (by decide)) BK102.out (by decide)) (fun _ hk => hk.1.2) (.slice Ao12 t108.length co12)) (fun _ hk => hk.2) (.string t103)) (fun _ hk => hk.2) (.slice Ao10 t104.length co10)) (fun _ hk => hk.2) (.int .i64 t107)) (fun _ hk => hk.2) (.int .i64 a0_3)) (fun _ hk => hk.2) (.int .i64 a0_4)) (fun _ hk => hk.2) (.int .i64 a0_5)) (fun _ hk => hk.2) (.int .i64 a0_6)) (fun _ hk => hk.2) (.slice Ao12 t108.length co12)) (fun _ hk => hk.2) (.bool a0_8)) (fun _ hk => hk.2) (.int .i64 a0_9)) (fun _ hk => hk.2) (.bool a0_10)) (fun _ hk => trivial), by (with_reducible repeat (first | apply Kd.R_alloc | apply Kd.R_drewN | apply Kd.R_drew)); exact Kd.R_mono (Kd.R_far (p := ⟨gb102, 10, none⟩) (Kd.R_far (p := ⟨gb102, 9, none⟩) (Kd.R_far (p := ⟨gb102, 8, none⟩) (Kd.R_far (p := ⟨gb102, 7, none⟩) (Kd.R_far (p := ⟨gb102, 6, none⟩) (Kd.R_far (p := ⟨gb102, 5, none⟩) (Kd.R_far (p := ⟨gb102, 4, none⟩) (Kd.R_far (p := ⟨gb102, 3, none⟩) (Kd.R_far (p := ⟨gb102, 2, none⟩) (Kd.R_far (p := ⟨gb102, 1, none⟩) (Kd.R_far (p := ⟨gb102, 0, none⟩) (Kd.R_far (p := ⟨gb101, 7, none⟩) (Kd.R_types (Kd.R_types HO110.out BK101.out (by decide)) BK102.out (by decide)) (fun _ hk => hk.1.2) (.slice Ao12 t108.length co12)) (fun _ hk => hk.2) (.string t103)) (fun _ hk => hk.2) (.slice Ao10 t104.length co10)) (fun _ hk => hk.2) (.int .i64 t107)) (fun _ hk => hk.2) (.int .i64 a0_3)) (fun _ hk => hk.2) (.int .i64 a0_4)) (fun _ hk => hk.2) (.int .i64 a0_5)) (fun _ hk => hk.2) (.int .i64 a0_6)) (fun _ hk => hk.2) (.slice Ao12 t108.length co12)) (fun _ hk => hk.2) (.bool a0_8)) (fun _ hk => hk.2) (.int .i64 a0_9)) (fun _ hk => hk.2) (.bool a0_10)) (fun _ hk => trivial), zcb41⟩

end Go.Proofs.YtkgmoajdcibafaaDoor.P

-- written by a program of this session's (wip/pp)
namespace Go.Proofs.YtkgmoajdcibafaaDoor.P
open Go.RowKit Go.Proofs.YtkgmoajdcibafaaDoorW.PrintWords Go.Proofs.YtkgmoajdcibafaaDoorW.PrintLast Go.Proofs.YtkgmoajdcibafaaDoorW.PrintMore
attribute [local go_sem] max2_int min2_int max_two min_two max_three min_three max_four min_four str_geq str_gtr str_leq   -- for this text's walks alone
set_option linter.unusedVariables false
set_option linter.unusedSimpArgs false

/-! ### impl_WinOf: function 13 -/
def impl_WinOf.j0 : Nat → Bool → Int → Int → Int → List (S37) → ByteArray → List (S123) → Int → Option (ByteArray × (List (S123)) × Int × Int × Int × Int × Int × List Int × Bool × Int × Bool × Bool)
 | 0, _, _, _, _, _, _, _, _ => none
 | k + 1, x15, x102000, x102001, x102002, x102003, x103000, x103001, x103002 => if x15 = true then (some ((⟨#[]⟩ : ByteArray), ([] : List (S123)), 0, 0, 0, 0, 0, ([] : List Int), false, 0, false, false)) else ((impl_Board_find.f k x102000 x102001 x102002 x102003 x103000 x103001 x103002).bind fun bt106 => (if bt106.2 = true then (if 0 ≤ bt106.1 then (if bt106.1 < (x102003.length : Int) then ((impl_Win_cloned.f ((rd_T37 x102003 bt106.1).f0.f0) ((rd_T37 x102003 bt106.1).f0.f1) ((rd_T37 x102003 bt106.1).f0.f2) ((rd_T37 x102003 bt106.1).f1.f0) ((rd_T37 x102003 bt106.1).f1.f1) ((rd_T37 x102003 bt106.1).f1.f2) ((rd_T37 x102003 bt106.1).f1.f3) ((rd_T37 x102003 bt106.1).f1.f4) ((rd_T37 x102003 bt106.1).f1.f5) ((rd_T37 x102003 bt106.1).f2) ((rd_T37 x102003 bt106.1).f3)).bind fun bt109 => (some (bt109.1, bt109.2.1, bt109.2.2.1, bt109.2.2.2.1, bt109.2.2.2.2.1, bt109.2.2.2.2.2.1, bt109.2.2.2.2.2.2.1, bt109.2.2.2.2.2.2.2.1, bt109.2.2.2.2.2.2.2.2.1, bt109.2.2.2.2.2.2.2.2.2.1, bt109.2.2.2.2.2.2.2.2.2.2, true))) else (none)) else (none)) else (some ((⟨#[]⟩ : ByteArray), ([] : List (S123)), 0, 0, 0, 0, 0, ([] : List Int), false, 0, false, false))))
def impl_WinOf.f (k : Nat) (a0_0 : Int) (a0_1 : Int) (a0_2 : Int) (l0_3 : List (S37)) (a1_0 : ByteArray) (l1_1 : List (S123)) (a1_2 : Int) : Option (ByteArray × (List (S123)) × Int × Int × Int × Int × Int × List Int × Bool × Int × Bool × Bool) := (impl_GoodBoard.f k a0_0 a0_1 a0_2 l0_3).bind fun t104 => (if t104 = true then ((impl_GoodKey.f k a1_0 l1_1 a1_2).bind fun t105 => (impl_WinOf.j0 k (!t105) a0_0 a0_1 a0_2 l0_3 a1_0 l1_1 a1_2)) else (impl_WinOf.j0 k true a0_0 a0_1 a0_2 l0_3 a1_0 l1_1 a1_2))
theorem impl_WinOf.mono_l : ∀ k, (∀ y0 y1 y2 y3 y4 y5 y6 y7, LeO (impl_WinOf.j0 k y0 y1 y2 y3 y4 y5 y6 y7) (impl_WinOf.j0 (k + 1) y0 y1 y2 y3 y4 y5 y6 y7))
 | 0 => fun _ _ _ _ _ _ _ _ r h => by simp [impl_WinOf.j0] at h
 | k + 1 => by
  have ih0 := impl_WinOf.mono_l k; have m0 := @impl_Board_find.mono; have m1 := @impl_GoodBoard.mono; have m2 := @impl_GoodKey.mono
  · intro y0 y1 y2 y3 y4 y5 y6 y7
    unfold impl_WinOf.j0
    exact moZ
theorem impl_WinOf.mono : ∀ a0 a1 a2 a3 a4 a5 a6 k, LeO (impl_WinOf.f k a0 a1 a2 a3 a4 a5 a6) (impl_WinOf.f (k + 1) a0 a1 a2 a3 a4 a5 a6) := by
 intro a0 a1 a2 a3 a4 a5 a6 k
 have ih0 := impl_WinOf.mono_l k
 have m0 := @impl_Board_find.mono; have m1 := @impl_GoodBoard.mono; have m2 := @impl_GoodKey.mono
 unfold impl_WinOf.f
 exact moZ
set_option maxHeartbeats 8000000 in
set_option maxRecDepth 100000 in
theorem impl_WinOf.calls (k : Nat) (a0_0 : Int) (a0_1 : Int) (a0_2 : Int) (A0_3 : Option Addr) (c0_3 : Nat) (l0_3 : List (S37)) (a1_0 : ByteArray) (A1_1 : Option Addr) (c1_1 : Nat) (l1_1 : List (S123)) (a1_2 : Int) (r1 : ByteArray) (r2 : List (S123)) (r3 : Int) (r4 : Int) (r5 : Int) (r6 : Int) (r7 : Int) (r8 : List Int) (r9 : Bool) (r10 : Int) (r11 : Bool) (r12 : Bool) (w : World) (hr0_3 : Kd.C k37 w A0_3 l0_3.length l0_3) (hc0_3 : l0_3.length ≤ c0_3) (hr1_1 : Kd.C k123 w A1_1 l1_1.length l1_1) (hc1_1 : l1_1.length ≤ c1_1) (h : impl_WinOf.f k a0_0 a0_1 a0_2 l0_3 a1_0 l1_1 a1_2 = some (r1, r2, r3, r4, r5, r6, r7, r8, r9, r10, r11, r12)) :
 Calls Tryd.prog 13 #[.agg #[.int .i64 a0_0, .int .i64 a0_1, .int .i64 a0_2, .slice A0_3 l0_3.length c0_3], .agg #[.string a1_0, .slice A1_1 l1_1.length c1_1, .int .i64 a1_2]] w fun e w' => ∃ v1_ v7_ : Value, e = .returned (.tuple #[.agg #[.string r1, v1_, .int .i64 r3, .int .i64 r4, .int .i64 r5, .int .i64 r6, .int .i64 r7, v7_, .bool r9, .int .i64 r10, .bool r11], .bool r12]) ∧ Kd.R k123 123 w' w.heap.size (fun _ => True) v1_ r2 ∧ Kd.R (Kd.int .i64) 3 w' w.heap.size (fun _ => True) v7_ r8 ∧ Below w.heap.size w w' := by
 have hu42 := Tryd.underlying42
 have hu32 := Tryd.underlying32
 have hu37 := Tryd.underlying37
 have HR0_3 := aM hr0_3
 have HC0_3 := aM hc0_3
 clear hr0_3 hc0_3
 have HR1_1 := aM hr1_1
 have HC1_1 := aM hc1_1
 clear hr1_1 hc1_1
 have HB := aM (Below.refl w.heap.size w)
 have H : ((impl_GoodBoard.f k a0_0 a0_1 a0_2 l0_3).bind fun t104 => (if t104 = true then ((impl_GoodKey.f k a1_0 l1_1 a1_2).bind fun t105 => (impl_WinOf.j0 k (!t105) a0_0 a0_1 a0_2 l0_3 a1_0 l1_1 a1_2)) else (impl_WinOf.j0 k true a0_0 a0_1 a0_2 l0_3 a1_0 l1_1 a1_2))) = some (r1, r2, r3, r4, r5, r6, r7, r8, r9, r10, r11, r12) := h
 clear h
 have HC3 := aM H
 clear H
 go_enter Tryd.func13, Tryd.ntmps13
 go_upto_region 1 with (first | ((with_reducible refine gate_dst (N := 2) rfl ?_); refine bX 2 42 #[.int .i64 a0_0, .int .i64 a0_1, .int .i64 a0_2, .slice A0_3 l0_3.length c0_3] ?_; intro gb101 hg w4 hbox hb; have _ := aM (below_step hbZ hb); have _ := aM hbox; have _ := szZ hg; have _ := szZ hg; clear HB; rename_i HB BK101 GW101 GE101; clear hb hbox hg) | ((with_reducible refine gate_dst (N := 3) rfl ?_); refine bX 3 32 #[.string a1_0, .slice A1_1 l1_1.length c1_1, .int .i64 a1_2] ?_; intro gb102 hg w5 hbox hb; have _ := bB gb101 hb; have _ := aM (below_step hbZ hb); have _ := aM hbox; have _ := szZ hg; have _ := szZ hg; have ⟨_, _⟩ := nbB gb101 hg; clear BK101 HB; rename_i BK101 HB BK102 GW102 GE102 NB101_102 NB102_101; clear hb hbox hg) | ((with_reducible refine gate_dst (N := 4) rfl ?_); refine bX 4 37 #[.string (⟨#[]⟩ : ByteArray), .slice none 0 0, .int .i64 0, .int .i64 0, .int .i64 0, .int .i64 0, .int .i64 0, .slice none 0 0, .bool false, .int .i64 0, .bool false] ?_; intro gb103 hg w6 hbox hb; have _ := bB gb101 hb; have _ := bB gb102 hb; have _ := aM (below_step hbZ hb); have _ := aM hbox; have _ := szZ hg; have _ := szZ hg; have ⟨_, _⟩ := nbB gb101 hg; have ⟨_, _⟩ := nbB gb102 hg; clear BK101 BK102 HB; rename_i BK101 BK102 HB BK103 GW103 GE103 NB101_103 NB103_101 NB102_103 NB103_102; clear hb hbox hg))
 (try simp only [Act.put, List.setIfInBounds_toArray, List.set_cons_zero, List.set_cons_succ])
 go_cut [15] (fun v15 wc => ∃ (kq : Nat) (x15_2 : Bool), v15 = .bool x15_2 ∧ Aside0 (impl_WinOf.j0 kq x15_2 a0_0 a0_1 a0_2 l0_3 a1_0 l1_1 a1_2 = some (r1, r2, r3, r4, r5, r6, r7, r8, r9, r10, r11, r12)) ∧ Aside0 (kq ≤ k) ∧ Aside0 (wc.heap[gb101]? = some (.cells #[.int .i64 a0_0, .int .i64 a0_1, .int .i64 a0_2, (.slice A0_3 l0_3.length c0_3)] 42 (0, 0))) ∧ Aside0 (wc.heap[gb102]? = some (.cells #[.string a1_0, (.slice A1_1 l1_1.length c1_1), .int .i64 a1_2] 32 (0, 0))) ∧ Aside0 (wc.heap[gb103]? = some (.cells #[.string (⟨#[]⟩ : ByteArray), (.slice none 0 0), .int .i64 0, .int .i64 0, .int .i64 0, .int .i64 0, .int .i64 0, (.slice none 0 0), .bool false, .int .i64 0, .bool false] 37 (0, 0))) ∧ Aside0 (Below w.heap.size w wc))
 case first =>
  have H := HC3.out
  clear HC3
  obtain ⟨t104, A7, H⟩ := bS H; try dsimp only at H
  by_cases c8 : t104 = true
  · subst c8
    rw [if_pos rfl] at H
    obtain ⟨t105, A9, H⟩ := bS H; try dsimp only at H
    have H' := aM H
    clear H
    have hnb10 := NB101_102.out
    have hnc10 := NB102_101.out
    have hnb11 := NB101_103.out
    have hnc11 := NB103_101.out
    have hz12 := cellsZ4 BK101.out
    go_wp2_with (first | ((with_reducible refine gate_callee (f := 46) rfl ?_); refine gL 9 Tryd.func46 #[.agg #[.int .i64 a0_0, .int .i64 a0_1, .int .i64 a0_2, .slice A0_3 l0_3.length c0_3]] ?_; (with_reducible refine (impl_GoodBoard.calls k a0_0 a0_1 a0_2 _ _ l0_3 true _ ?side1 ?side2 A7.out).mono ?_); (case side1 => exact (cZ (Kd.C_below HR0_3.out HB.out))); (case side2 => exact HC0_3.out); rintro e w13 ⟨rfl, hb⟩; refine ⟨_, rfl, ?_⟩; have _ := bB gb101 hb; have _ := bB gb102 hb; have _ := bB gb103 hb; have _ := aM (below_step hbZ hb); clear BK101 BK102 BK103 HB; rename_i BK101 BK102 BK103 HB; (try clear hb); have hnb14 := NB102_103.out; have hnc14 := NB103_102.out; have hz15 := cellsZ3 BK102.out) | (go_at_call 47; (with_reducible refine (impl_GoodKey.calls k a1_0 _ _ l1_1 a1_2 t105 _ ?side1 ?side2 A9.out).mono ?_); (case side1 => exact (cZ (Kd.C_below HR1_1.out HB.out))); (case side2 => exact HC1_1.out); rintro e w16 ⟨rfl, hb⟩; have _ := bB gb101 hb; have _ := bB gb102 hb; have _ := bB gb103 hb; have _ := aM (below_step hbZ hb); clear BK101 BK102 BK103 HB; rename_i BK101 BK102 BK103 HB; (try clear hb)))
    go_meet
    case rel => exact ⟨_, (!t105), z4458, H', ⟨zb79b⟩, ⟨bkZ⟩, ⟨bkZ⟩, ⟨bkZ⟩, ⟨zcb41⟩⟩
  · replace c8 := Bool.eq_false_iff.mpr c8
    subst c8
    rw [if_neg (show ¬ (false = true) by decide)] at H
    have H' := aM H
    clear H
    have hnb17 := NB101_102.out
    have hnc17 := NB102_101.out
    have hnb18 := NB101_103.out
    have hnc18 := NB103_101.out
    have hz19 := cellsZ4 BK101.out
    go_wp2_with (first | ((with_reducible refine gate_callee (f := 46) rfl ?_); refine gL 9 Tryd.func46 #[.agg #[.int .i64 a0_0, .int .i64 a0_1, .int .i64 a0_2, .slice A0_3 l0_3.length c0_3]] ?_; (with_reducible refine (impl_GoodBoard.calls k a0_0 a0_1 a0_2 _ _ l0_3 false _ ?side1 ?side2 A7.out).mono ?_); (case side1 => exact (cZ (Kd.C_below HR0_3.out HB.out))); (case side2 => exact HC0_3.out); rintro e w20 ⟨rfl, hb⟩; refine ⟨_, rfl, ?_⟩; have _ := bB gb101 hb; have _ := bB gb102 hb; have _ := bB gb103 hb; have _ := aM (below_step hbZ hb); clear BK101 BK102 BK103 HB; rename_i BK101 BK102 BK103 HB; (try clear hb)))
    go_meet
    case rel => exact ⟨_, (true), z4458, H', ⟨zb79b⟩, ⟨bkZ⟩, ⟨bkZ⟩, ⟨bkZ⟩, ⟨zcb41⟩⟩
 case rest =>
  clear HC3
  (try clear c1)
  obtain ⟨kq, x15_2, rfl, HA, HJ2, BK101, BK102, BK103, HB⟩ := hcut
  cases kq with
  | zero => exact absurd HA.out (by simp [impl_WinOf.j0])
  | succ kj2 =>
   have H := HA.out
   clear HA
   simp only [impl_WinOf.j0] at H
   by_cases c21 : x15_2 = true
   · subst c21
     rw [if_pos rfl] at H
     simp only [Option.some.injEq, Prod.mk.injEq] at H
     obtain ⟨rfl, rfl, rfl, rfl, rfl, rfl, rfl, rfl, rfl, rfl, rfl, rfl⟩ := H
     have hnb22 := NB103_101.out
     have hnc22 := NB101_103.out
     have hnb23 := NB103_102.out
     have hnc23 := NB102_103.out
     have hz24 := cellsZ11 BK103.out
     go_wp2
     refine bodyPost_ret (results_ct rfl _ _ gb103 37 #[.string (⟨#[]⟩ : ByteArray), .slice none 0 0, .int .i64 0, .int .i64 0, .int .i64 0, .int .i64 0, .int .i64 0, .slice none 0 0, .bool false, .int .i64 0, .bool false] (0, 0) _ rfl bkZ Tryd.underlying37 rfl (by kernel_rfl)) rfl ?_
     exact ⟨_, _, z674d, z02fa, z02fa, zcb41⟩
   · replace c21 := Bool.eq_false_iff.mpr c21
     subst c21
     rw [if_neg (show ¬ (false = true) by decide)] at H
     obtain ⟨⟨t106, t107⟩, A25, H⟩ := bS H; try dsimp only at H
     by_cases c26 : t107 = true
     · subst c26
       rw [if_pos rfl] at H
       obtain ⟨c27b0, H⟩ := sE H
       obtain ⟨c28b0, H⟩ := sL H
       obtain ⟨⟨t109, t110, t113, t114, t115, t116, t117, t118, t121, t122, t123⟩, A29, H⟩ := bS H; try dsimp only at H
       simp only [Option.some.injEq, Prod.mk.injEq] at H
       obtain ⟨rfl, rfl, rfl, rfl, rfl, rfl, rfl, rfl, rfl, rfl, rfl, rfl⟩ := H
       have hnb30 := NB101_102.out
       have hnc30 := NB102_101.out
       have hnb31 := NB101_103.out
       have hnc31 := NB103_101.out
       have hz32 := cellsZ4 BK101.out
       have hnb33 := NB102_103.out
       have hnc33 := NB103_102.out
       have hz34 := cellsZ3 BK102.out
       go_wp2_with (first | ((with_reducible refine gate_callee (f := 48) rfl ?_); refine gL 20 Tryd.func48 #[.agg #[.int .i64 a0_0, .int .i64 a0_1, .int .i64 a0_2, .slice A0_3 l0_3.length c0_3], .agg #[.string a1_0, .slice A1_1 l1_1.length c1_1, .int .i64 a1_2]] ?_; (with_reducible refine (impl_Board_find.calls kj2 a0_0 a0_1 a0_2 _ _ l0_3 a1_0 _ _ l1_1 a1_2 t106 true _ ?side1 ?side2 ?side3 ?side4 A25.out).mono ?_); (case side1 => exact (cZ (Kd.C_below HR0_3.out HB.out))); (case side2 => exact HC0_3.out); (case side3 => exact (cZ (Kd.C_below HR1_1.out HB.out))); (case side4 => exact HC1_1.out); rintro e w35 ⟨rfl, hb⟩; refine ⟨_, rfl, ?_⟩; have _ := bB gb101 hb; have _ := bB gb102 hb; have _ := bB gb103 hb; have _ := aM (below_step hbZ hb); clear BK101 BK102 BK103 HB; rename_i BK101 BK102 BK103 HB; (try clear hb); have hz36 := cellsZ4 BK101.out; have p108 : 0 ≤ (t106 : Int) := of_decide_eq_true z1200; have q108 : t106 < (l0_3.length : Int) := of_decide_eq_true z1200; obtain ⟨ad108, A108_1, c108_1, A108_7, c108_7, e108, hx108_0, hx108_1, hx108_2, hx108_3, hx108_4, hx108_5, hx108_6, hx108_7, hx108_8, hx108_9, hx108_10, hl108_1, hi108_1, hl108_7, hi108_7⟩ := at_T37 HR0_3.out t106 p108 q108; cases e108; have TW108_1 := aM hx108_1; have TW108_7 := aM hx108_7; replace hx108_0 := (HB.out.cell (World.block_lt_of_cell? w _ hx108_0)).trans hx108_0; replace hx108_1 := (HB.out.cell (World.block_lt_of_cell? w _ hx108_1)).trans hx108_1; replace hx108_2 := (HB.out.cell (World.block_lt_of_cell? w _ hx108_2)).trans hx108_2; replace hx108_3 := (HB.out.cell (World.block_lt_of_cell? w _ hx108_3)).trans hx108_3; replace hx108_4 := (HB.out.cell (World.block_lt_of_cell? w _ hx108_4)).trans hx108_4; replace hx108_5 := (HB.out.cell (World.block_lt_of_cell? w _ hx108_5)).trans hx108_5; replace hx108_6 := (HB.out.cell (World.block_lt_of_cell? w _ hx108_6)).trans hx108_6; replace hx108_7 := (HB.out.cell (World.block_lt_of_cell? w _ hx108_7)).trans hx108_7; replace hx108_8 := (HB.out.cell (World.block_lt_of_cell? w _ hx108_8)).trans hx108_8; replace hx108_9 := (HB.out.cell (World.block_lt_of_cell? w _ hx108_9)).trans hx108_9; replace hx108_10 := (HB.out.cell (World.block_lt_of_cell? w _ hx108_10)).trans hx108_10; have HR108_1 := aM hi108_1; have HC108_1 := aM hl108_1; clear hi108_1 hl108_1; have HR108_7 := aM hi108_7; have HC108_7 := aM hl108_7; clear hi108_7 hl108_7; replace p108 := eq_true p108; replace q108 := eq_true q108) | ((with_reducible refine gate_callee (f := 49) rfl ?_); refine gL 31 Tryd.func49 #[.agg #[.string ((rd_T37 l0_3 t106).f0.f0), .slice A108_1 ((rd_T37 l0_3 t106).f0.f1).length c108_1, .int .i64 ((rd_T37 l0_3 t106).f0.f2), .int .i64 ((rd_T37 l0_3 t106).f1.f0), .int .i64 ((rd_T37 l0_3 t106).f1.f1), .int .i64 ((rd_T37 l0_3 t106).f1.f2), .int .i64 ((rd_T37 l0_3 t106).f1.f3), .slice A108_7 ((rd_T37 l0_3 t106).f1.f4).length c108_7, .bool ((rd_T37 l0_3 t106).f1.f5), .int .i64 ((rd_T37 l0_3 t106).f2), .bool ((rd_T37 l0_3 t106).f3)]] ?_; (with_reducible refine (impl_Win_cloned.calls ((rd_T37 l0_3 t106).f0.f0) _ _ ((rd_T37 l0_3 t106).f0.f1) ((rd_T37 l0_3 t106).f0.f2) ((rd_T37 l0_3 t106).f1.f0) ((rd_T37 l0_3 t106).f1.f1) ((rd_T37 l0_3 t106).f1.f2) ((rd_T37 l0_3 t106).f1.f3) _ _ ((rd_T37 l0_3 t106).f1.f4) ((rd_T37 l0_3 t106).f1.f5) ((rd_T37 l0_3 t106).f2) ((rd_T37 l0_3 t106).f3) t109 t110 t113 t114 t115 t116 t117 t118 t121 t122 t123 _ ?side1 ?side2 ?side3 ?side4 A29.out).mono ?_); (case side1 => exact (cZ (Kd.C_below HR108_1.out HB.out))); (case side2 => exact HC108_1.out); (case side3 => exact (cZ (Kd.C_below HR108_7.out HB.out))); (case side4 => exact HC108_7.out); rintro e w37 ⟨v111, v119, rfl, ho0, ho1, hb⟩; refine ⟨_, rfl, ?_⟩; have _ := aM (Kd.R_lower ho0 (below_size hbZ)); have _ := aM (Kd.R_lower ho1 (below_size hbZ)); have _ := bB gb101 hb; have _ := bB gb102 hb; have _ := bB gb103 hb; have _ := aM (below_step hbZ hb); clear BK101 BK102 BK103 HB; rename_i HO112 HO120 BK101 BK102 BK103 HB; (try clear hb); (try clear ho0); (try clear ho1); have hz38 := cellsZ11 BK103.out; obtain ⟨Ao39, co39, eo39⟩ := Kd.R_slice HO112.out; subst eo39; obtain ⟨Ao40, co40, eo40⟩ := Kd.R_slice HO120.out; subst eo40))
       refine bodyPost_ret (results_ct rfl _ _ gb103 37 #[.string t109, .slice Ao39 t110.length co39, .int .i64 t113, .int .i64 t114, .int .i64 t115, .int .i64 t116, .int .i64 t117, .slice Ao40 t118.length co40, .bool t121, .int .i64 t122, .bool t123] (0, 0) _ rfl bkZ Tryd.underlying37 rfl (by kernel_rfl)) rfl ?_
       exact ⟨_, _, z674d, by (with_reducible repeat (first | apply Kd.R_alloc | apply Kd.R_drewN | apply Kd.R_drew)); exact Kd.R_mono (Kd.R_far (p := ⟨gb103, 10, none⟩) (Kd.R_far (p := ⟨gb103, 9, none⟩) (Kd.R_far (p := ⟨gb103, 8, none⟩) (Kd.R_far (p := ⟨gb103, 7, none⟩) (Kd.R_far (p := ⟨gb103, 6, none⟩) (Kd.R_far (p := ⟨gb103, 5, none⟩) (Kd.R_far (p := ⟨gb103, 4, none⟩) (Kd.R_far (p := ⟨gb103, 3, none⟩) (Kd.R_far (p := ⟨gb103, 2, none⟩) (Kd.R_far (p := ⟨gb103, 1, none⟩) (Kd.R_far (p := ⟨gb103, 0, none⟩) (Kd.R_types HO112.out BK103.out (by decide)) (fun _ hk => hk.2) (.string t109)) (fun _ hk => hk.2) (.slice Ao39 t110.length co39)) (fun _ hk => hk.2) (.int .i64 t113)) (fun _ hk => hk.2) (.int .i64 t114)) (fun _ hk => hk.2) (.int .i64 t115)) (fun _ hk => hk.2) (.int .i64 t116)) (fun _ hk => hk.2) (.int .i64 t117)) (fun _ hk => hk.2) (.slice Ao40 t118.length co40)) (fun _ hk => hk.2) (.bool t121)) (fun _ hk => hk.2) (.int .i64 t122)) (fun _ hk => hk.2) (.bool t123)) (fun _ hk => trivial), by (with_reducible repeat (first | apply Kd.R_alloc | apply Kd.R_drewN | apply Kd.R_drew)); exact Kd.R_mono (Kd.R_far (p := ⟨gb103, 10, none⟩) (Kd.R_far (p := ⟨gb103, 9, none⟩) (Kd.R_far (p := ⟨gb103, 8, none⟩) (Kd.R_far (p := ⟨gb103, 7, none⟩) (Kd.R_far (p := ⟨gb103, 6, none⟩) (Kd.R_far (p := ⟨gb103, 5, none⟩) (Kd.R_far (p := ⟨gb103, 4, none⟩) (Kd.R_far (p := ⟨gb103, 3, none⟩) (Kd.R_far (p := ⟨gb103, 2, none⟩) (Kd.R_far (p := ⟨gb103, 1, none⟩) (Kd.R_far (p := ⟨gb103, 0, none⟩) (Kd.R_types HO120.out BK103.out (by decide)) (fun _ hk => hk.2) (.string t109)) (fun _ hk => hk.2) (.slice Ao39 t110.length co39)) (fun _ hk => hk.2) (.int .i64 t113)) (fun _ hk => hk.2) (.int .i64 t114)) (fun _ hk => hk.2) (.int .i64 t115)) (fun _ hk => hk.2) (.int .i64 t116)) (fun _ hk => hk.2) (.int .i64 t117)) (fun _ hk => hk.2) (.slice Ao40 t118.length co40)) (fun _ hk => hk.2) (.bool t121)) (fun _ hk => hk.2) (.int .i64 t122)) (fun _ hk => hk.2) (.bool t123)) (fun _ hk => trivial), zcb41⟩
     · replace c26 := Bool.eq_false_iff.mpr c26
       subst c26
       rw [if_neg (show ¬ (false = true) by decide)] at H
       simp only [Option.some.injEq, Prod.mk.injEq] at H
       obtain ⟨rfl, rfl, rfl, rfl, rfl, rfl, rfl, rfl, rfl, rfl, rfl, rfl⟩ := H
       have hnb41 := NB101_102.out
       have hnc41 := NB102_101.out
       have hnb42 := NB101_103.out
       have hnc42 := NB103_101.out
       have hz43 := cellsZ4 BK101.out
       have hnb44 := NB102_103.out
       have hnc44 := NB103_102.out
       have hz45 := cellsZ3 BK102.out
       go_wp2_with (first | ((with_reducible refine gate_callee (f := 48) rfl ?_); refine gL 20 Tryd.func48 #[.agg #[.int .i64 a0_0, .int .i64 a0_1, .int .i64 a0_2, .slice A0_3 l0_3.length c0_3], .agg #[.string a1_0, .slice A1_1 l1_1.length c1_1, .int .i64 a1_2]] ?_; (with_reducible refine (impl_Board_find.calls kj2 a0_0 a0_1 a0_2 _ _ l0_3 a1_0 _ _ l1_1 a1_2 t106 false _ ?side1 ?side2 ?side3 ?side4 A25.out).mono ?_); (case side1 => exact (cZ (Kd.C_below HR0_3.out HB.out))); (case side2 => exact HC0_3.out); (case side3 => exact (cZ (Kd.C_below HR1_1.out HB.out))); (case side4 => exact HC1_1.out); rintro e w46 ⟨rfl, hb⟩; refine ⟨_, rfl, ?_⟩; have _ := bB gb101 hb; have _ := bB gb102 hb; have _ := bB gb103 hb; have _ := aM (below_step hbZ hb); clear BK101 BK102 BK103 HB; rename_i BK101 BK102 BK103 HB; (try clear hb); have hz47 := cellsZ11 BK103.out))
       refine bodyPost_ret (results_ct rfl _ _ gb103 37 #[.string (⟨#[]⟩ : ByteArray), .slice none 0 0, .int .i64 0, .int .i64 0, .int .i64 0, .int .i64 0, .int .i64 0, .slice none 0 0, .bool false, .int .i64 0, .bool false] (0, 0) _ rfl bkZ Tryd.underlying37 rfl (by kernel_rfl)) rfl ?_
       exact ⟨_, _, z674d, z02fa, z02fa, zcb41⟩

end Go.Proofs.YtkgmoajdcibafaaDoor.P

-- written by a program of this session's (wip/pp)
namespace Go.Proofs.YtkgmoajdcibafaaDoor.P
open Go.RowKit Go.Proofs.YtkgmoajdcibafaaDoorW.PrintWords Go.Proofs.YtkgmoajdcibafaaDoorW.PrintLast Go.Proofs.YtkgmoajdcibafaaDoorW.PrintMore
attribute [local go_sem] max2_int min2_int max_two min_two max_three min_three max_four min_four str_geq str_gtr str_leq   -- for this text's walks alone
set_option linter.unusedVariables false
set_option linter.unusedSimpArgs false

/-! ### laws_eqTag: function 96 -/
def laws_eqTag.f (a0_0 : ByteArray) (a0_1 : ByteArray) (a1_0 : ByteArray) (a1_1 : ByteArray) : Option (Bool) := if a0_0.toList = a1_0.toList then (if a0_1.toList = a1_1.toList then (some true) else (none)) else (none)
set_option maxHeartbeats 8000000 in
set_option maxRecDepth 100000 in
theorem laws_eqTag.calls (a0_0 : ByteArray) (a0_1 : ByteArray) (a1_0 : ByteArray) (a1_1 : ByteArray) (r : Bool) (w : World) (h : laws_eqTag.f a0_0 a0_1 a1_0 a1_1 = some r) :
 Calls Tryd.prog 96 #[.agg #[.string a0_0, .string a0_1], .agg #[.string a1_0, .string a1_1]] w fun e w' => e = .returned (.bool r) ∧ Below w.heap.size w w' := by
 have hu123 := Tryd.underlying123
 have HB := aM (Below.refl w.heap.size w)
 have H : (if a0_0.toList = a1_0.toList then (if a0_1.toList = a1_1.toList then (some true) else (none)) else (none)) = some r := h
 clear h
 replace H := ifS H; obtain ⟨c3, H⟩ := H
 have c3b0 := eqE c3
 clear c3
 replace H := ifS H; obtain ⟨c4, H⟩ := H
 have c4b0 := eqE c4
 clear c4
 obtain rfl := Option.some.inj H
 go_enter Tryd.func96, Tryd.ntmps96
 go_wp2_with (first | ((with_reducible refine gate_dst (N := 2) rfl ?_); refine bX 2 123 #[.string a0_0, .string a0_1] ?_; intro gb101 hg w5 hbox hb; have _ := aM (below_step hbZ hb); have _ := aM hbox; have _ := szZ hg; have _ := szZ hg; clear HB; rename_i HB BK101 GW101 GE101; clear hb hbox hg) | ((with_reducible refine gate_dst (N := 3) rfl ?_); refine bX 3 123 #[.string a1_0, .string a1_1] ?_; intro gb102 hg w6 hbox hb; have _ := bB gb101 hb; have _ := aM (below_step hbZ hb); have _ := aM hbox; have _ := szZ hg; have _ := szZ hg; have ⟨_, _⟩ := nbB gb101 hg; clear BK101 HB; rename_i BK101 HB BK102 GW102 GE102 NB101_102 NB102_101; clear hb hbox hg; have hnb7 := NB101_102.out; have hnc7 := NB102_101.out; have hz8 := cellsZ2 BK101.out; have hz9 := cellsZ2 BK102.out))
 go_ret
 exact ⟨z674d, zcb41⟩
end Go.Proofs.YtkgmoajdcibafaaDoor.P

-- written by a program of this session's (wip/pp)
namespace Go.Proofs.YtkgmoajdcibafaaDoor.P
open Go.RowKit Go.Proofs.YtkgmoajdcibafaaDoorW.PrintWords Go.Proofs.YtkgmoajdcibafaaDoorW.PrintLast Go.Proofs.YtkgmoajdcibafaaDoorW.PrintMore
attribute [local go_sem] max2_int min2_int max_two min_two max_three min_three max_four min_four str_geq str_gtr str_leq   -- for this text's walks alone
set_option linter.unusedVariables false
set_option linter.unusedSimpArgs false

/-! ### laws_eqTagS: function 52 -/
def laws_eqTagS.l0 : Nat → List (S123) → List (S123) → Int → Option (Bool)
 | 0, _, _, _ => none
 | k + 1, x0, x1, x5 => if x5 < (x0.length : Int) then (if 0 ≤ x5 then (if x5 < (x1.length : Int) then ((laws_eqTag.f ((rd_T123 x0 x5).f0) ((rd_T123 x0 x5).f1) ((rd_T123 x1 x5).f0) ((rd_T123 x1 x5).f1)).bind fun t103 => (if t103 = true then (laws_eqTagS.l0 k x0 x1 (wrap64 (x5 + 1))) else (none))) else (none)) else (none)) else (some true)
def laws_eqTagS.f (k : Nat) (l0 : List (S123)) (l1 : List (S123)) : Option (Bool) := if (l0.length : Int) = (l1.length : Int) then (laws_eqTagS.l0 k l0 l1 0) else (none)
theorem laws_eqTagS.mono_l : ∀ k, (∀ y0 y1 y2, LeO (laws_eqTagS.l0 k y0 y1 y2) (laws_eqTagS.l0 (k + 1) y0 y1 y2))
 | 0 => fun _ _ _ r h => by simp [laws_eqTagS.l0] at h
 | k + 1 => by
  have ih0 := laws_eqTagS.mono_l k
  · intro y0 y1 y2
    unfold laws_eqTagS.l0
    exact moZ
theorem laws_eqTagS.mono : ∀ a0 a1 k, LeO (laws_eqTagS.f k a0 a1) (laws_eqTagS.f (k + 1) a0 a1) := by
 intro a0 a1 k
 have ih0 := laws_eqTagS.mono_l k
 unfold laws_eqTagS.f
 exact moZ
def laws_eqTagS.T6 : Bool × List (List Nat × List Nat) := (true, [([], []), ([], []), ([0, 1], [0, 1]), ([2], [2]), ([], []), ([], []), ([4, 5], [4, 5]), ([6], [6]), ([3, 7], [3, 7]), ([8], [8])])
def laws_eqTagS.B6 : List Nat := [0, 0, 3, 7, 0, 0, 48, 112, 255, 511]
theorem laws_eqTagS.tab6 : rtab .any (opsOf Tryd.f52 6) = laws_eqTagS.T6 := by kernel_rfl
theorem laws_eqTagS.bits6 : waitsOk laws_eqTagS.T6.2 laws_eqTagS.B6 = true := by kernel_rfl
set_option maxHeartbeats 8000000 in
set_option maxRecDepth 100000 in
theorem laws_eqTagS.calls (k : Nat) (A0 : Option Addr) (c0 : Nat) (l0 : List (S123)) (A1 : Option Addr) (c1 : Nat) (l1 : List (S123)) (r : Bool) (w : World) (hr0 : Kd.C k123 w A0 l0.length l0) (hc0 : l0.length ≤ c0) (hr1 : Kd.C k123 w A1 l1.length l1) (hc1 : l1.length ≤ c1) (h : laws_eqTagS.f k l0 l1 = some r) :
 Calls Tryd.prog 52 #[.slice A0 l0.length c0, .slice A1 l1.length c1] w fun e w' => e = .returned (.bool r) ∧ Below w.heap.size w w' := by
 have hu123 := Tryd.underlying123
 have HR0 := aM hr0
 have HC0 := aM hc0
 clear hr0 hc0
 have HR1 := aM hr1
 have HC1 := aM hc1
 clear hr1 hc1
 have HB := aM (Below.refl w.heap.size w)
 have H : (if (l0.length : Int) = (l1.length : Int) then (laws_eqTagS.l0 k l0 l1 0) else (none)) = some r := h
 clear h
 replace H := ifS H; obtain ⟨c3, H⟩ := H
 have c3b0 := eqE c3
 have c3b2 : (l0.length == l1.length) = true := by first | simpa using c3 | (simp at c3 ⊢; omega)
 clear c3
 have H' := aM H
 clear H
 go_enter Tryd.func52, Tryd.ntmps52
 go_wp2
 go_loopg [5] k (fun kq v5 w' => ∃ (x5_1 : Int), v5 = .int .i64 x5_1 ∧ Aside0 (laws_eqTagS.l0 kq l0 l1 x5_1 = some r) ∧ Aside0 (kq ≤ k) ∧ Aside0 (Below w.heap.size w w'))
 case atStart => exact ⟨(0), z4458, H', ⟨Nat.le_refl _⟩, ⟨z5acd⟩⟩
 case round =>
  clear H'
  (try clear c1); (try clear c3b0); (try clear c3b2)
  obtain ⟨x5_1, rfl, HA, HK1, HB⟩ := hrel
  cases gk with
  | zero => exact absurd HA.out (by simp [laws_eqTagS.l0])
  | succ k1 =>
   have H := HA.out
   clear HA
   simp only [laws_eqTagS.l0] at H
   by_cases c4 : x5_1 < (l0.length : Int)
   · rw [if_pos c4] at H
     have c4b0 := dL c4
     clear c4
     obtain ⟨c5b0, H⟩ := sE H
     obtain ⟨c6b0, H⟩ := sL H
     obtain ⟨t103, A7, H⟩ := bS H; try dsimp only at H
     by_cases c8 : t103 = true
     · subst c8
       rw [if_pos rfl] at H
       have H' := aM H
       clear H
       try go_wp2
       have _ := aM (below_drew1 HB.out)
       clear HB
       rename_i HB
       have p101 : 0 ≤ (x5_1 : Int) := of_decide_eq_true z1200
       have q101 : x5_1 < (l0.length : Int) := of_decide_eq_true z1200
       obtain ⟨ad101, e101, hx101_0, hx101_1⟩ := at_T123 HR0.out x5_1 p101 q101
       have hw101_1 := hx101_1
       have hw101_0 := hx101_0
       cases e101
       replace hx101_0 := (HB.out.cell (World.block_lt_of_cell? w _ hx101_0)).trans hx101_0
       replace hx101_1 := (HB.out.cell (World.block_lt_of_cell? w _ hx101_1)).trans hx101_1
       replace p101 := eq_true p101
       replace q101 := eq_true q101
       have p102 : 0 ≤ (x5_1 : Int) := of_decide_eq_true z1200
       have q102 : x5_1 < (l1.length : Int) := of_decide_eq_true z1200
       obtain ⟨ad102, e102, hx102_0, hx102_1⟩ := at_T123 HR1.out x5_1 p102 q102
       have hw102_1 := hx102_1
       have hw102_0 := hx102_0
       cases e102
       replace hx102_0 := (HB.out.cell (World.block_lt_of_cell? w _ hx102_0)).trans hx102_0
       replace hx102_1 := (HB.out.cell (World.block_lt_of_cell? w _ hx102_1)).trans hx102_1
       replace p102 := eq_true p102
       replace q102 := eq_true q102
       refine sA 10 laws_eqTagS.tab6 laws_eqTagS.bits6 (fun w' => w'.cell? (ad101.add ((x5_1).toNat * 2)) = some (.string ((rd_T123 l0 x5_1).f0)) ∧ w'.cell? ⟨(ad101.add ((x5_1).toNat * 2)).block, (ad101.add ((x5_1).toNat * 2)).off + 1, none⟩ = some (.string ((rd_T123 l0 x5_1).f1)) ∧ w'.cell? (ad102.add ((x5_1).toNat * 2)) = some (.string ((rd_T123 l1 x5_1).f0)) ∧ w'.cell? ⟨(ad102.add ((x5_1).toNat * 2)).block, (ad102.add ((x5_1).toNat * 2)).off + 1, none⟩ = some (.string ((rd_T123 l1 x5_1).f1))) [] (fun hHeld HT_ HW_ => ?_)
       generalize wr.drew = w9 at HB hx101_0 hx101_1 hx102_0 hx102_1 hHeld ⊢
       refine pA 0 17 HT_ ?_; refine pA 1 18 HT_ ?_; refine pA 2 19 HT_ ?_; refine pA 4 21 HT_ ?_; refine pA 5 22 HT_ ?_; refine pA 6 23 HT_ ?_; refine tA 3 20 HT_ HW_ hHeld ?_; refine tA 7 24 HT_ HW_ hHeld ?_; refine oA 8 25 HT_ (fun K hK => ?_)
       refine goes_ Tryd.func96 (by kernel_rfl) rfl #[.agg #[.string ((rd_T123 l0 x5_1).f0), .string ((rd_T123 l0 x5_1).f1)], .agg #[.string ((rd_T123 l1 x5_1).f0), .string ((rd_T123 l1 x5_1).f1)]] (by rfl) rfl rfl zee81 ?_
       with_reducible refine (laws_eqTag.calls ((rd_T123 l0 x5_1).f0) ((rd_T123 l0 x5_1).f1) ((rd_T123 l1 x5_1).f0) ((rd_T123 l1 x5_1).f1) true _ A7.out).mono ?_
       rintro e w10 ⟨rfl, hb⟩
       refine ⟨_, rfl, ?_⟩
       have _ := aM (below_step hbZ hb)
       clear HB
       rename_i HB
       (try clear hb)
       refine hK.out _ _ sZ (fun hHeld => ?_)
       clear hK K
       refine nA 25 ?_; refine pA 9 26 HT_ ?_
       refine done_ (done_of HT_.out (by kernel_rfl)) ?_
       try go_wp2
       go_roundg k1
       case measure => have := HK1.out; omega
       case rel => exact ⟨(wrap64 (x5_1 + 1)), z4458, H', ⟨zfb39⟩, ⟨z5acd⟩⟩
     · replace c8 := Bool.eq_false_iff.mpr c8
       subst c8
       rw [if_neg (show ¬ (false = true) by decide)] at H
       exact absurd H (by simp)
   · rw [if_neg c4] at H
     have c4b0 := nL c4
     clear c4
     obtain rfl := Option.some.inj H
     go_wp2
     go_ret
     exact ⟨z674d, z5acd⟩
end Go.Proofs.YtkgmoajdcibafaaDoor.P

-- written by a program of this session's (wip/pp)
namespace Go.Proofs.YtkgmoajdcibafaaDoor.P
open Go.RowKit Go.Proofs.YtkgmoajdcibafaaDoorW.PrintWords Go.Proofs.YtkgmoajdcibafaaDoorW.PrintLast Go.Proofs.YtkgmoajdcibafaaDoorW.PrintMore
attribute [local go_sem] max2_int min2_int max_two min_two max_three min_three max_four min_four str_geq str_gtr str_leq   -- for this text's walks alone
set_option linter.unusedVariables false
set_option linter.unusedSimpArgs false

/-! ### laws_eqKey: function 16 -/
def laws_eqKey.f (k : Nat) (a0_0 : ByteArray) (l0_1 : List (S123)) (a0_2 : Int) (a1_0 : ByteArray) (l1_1 : List (S123)) (a1_2 : Int) : Option (Bool) := if a0_0.toList = a1_0.toList then ((laws_eqTagS.f k l0_1 l1_1).bind fun t103 => (if t103 = true then (if a0_2 = a1_2 then (some true) else (none)) else (none))) else (none)
theorem laws_eqKey.mono : ∀ a0 a1 a2 a3 a4 a5 k, LeO (laws_eqKey.f k a0 a1 a2 a3 a4 a5) (laws_eqKey.f (k + 1) a0 a1 a2 a3 a4 a5) := by
 intro a0 a1 a2 a3 a4 a5 k
 have m0 := @laws_eqTagS.mono
 unfold laws_eqKey.f
 exact moZ
set_option maxHeartbeats 8000000 in
set_option maxRecDepth 100000 in
theorem laws_eqKey.calls (k : Nat) (a0_0 : ByteArray) (A0_1 : Option Addr) (c0_1 : Nat) (l0_1 : List (S123)) (a0_2 : Int) (a1_0 : ByteArray) (A1_1 : Option Addr) (c1_1 : Nat) (l1_1 : List (S123)) (a1_2 : Int) (r : Bool) (w : World) (hr0_1 : Kd.C k123 w A0_1 l0_1.length l0_1) (hc0_1 : l0_1.length ≤ c0_1) (hr1_1 : Kd.C k123 w A1_1 l1_1.length l1_1) (hc1_1 : l1_1.length ≤ c1_1) (h : laws_eqKey.f k a0_0 l0_1 a0_2 a1_0 l1_1 a1_2 = some r) :
 Calls Tryd.prog 16 #[.agg #[.string a0_0, .slice A0_1 l0_1.length c0_1, .int .i64 a0_2], .agg #[.string a1_0, .slice A1_1 l1_1.length c1_1, .int .i64 a1_2]] w fun e w' => e = .returned (.bool r) ∧ Below w.heap.size w w' := by
 have hu32 := Tryd.underlying32
 have HR0_1 := aM hr0_1
 have HC0_1 := aM hc0_1
 clear hr0_1 hc0_1
 have HR1_1 := aM hr1_1
 have HC1_1 := aM hc1_1
 clear hr1_1 hc1_1
 have HB := aM (Below.refl w.heap.size w)
 have H : (if a0_0.toList = a1_0.toList then ((laws_eqTagS.f k l0_1 l1_1).bind fun t103 => (if t103 = true then (if a0_2 = a1_2 then (some true) else (none)) else (none))) else (none)) = some r := h
 clear h
 replace H := ifS H; obtain ⟨c3, H⟩ := H
 have c3b0 := eqE c3
 clear c3
 obtain ⟨t103, A4, H⟩ := bS H; try dsimp only at H
 by_cases c5 : t103 = true
 · subst c5
   rw [if_pos rfl] at H
   replace H := ifS H; obtain ⟨c6, H⟩ := H
   have c6b0 := eqE c6
   clear c6
   obtain rfl := Option.some.inj H
   go_enter Tryd.func16, Tryd.ntmps16
   go_wp2_with (first | ((with_reducible refine gate_dst (N := 2) rfl ?_); refine bX 2 32 #[.string a0_0, .slice A0_1 l0_1.length c0_1, .int .i64 a0_2] ?_; intro gb101 hg w7 hbox hb; have _ := aM (below_step hbZ hb); have _ := aM hbox; have _ := szZ hg; have _ := szZ hg; clear HB; rename_i HB BK101 GW101 GE101; clear hb hbox hg) | ((with_reducible refine gate_dst (N := 3) rfl ?_); refine bX 3 32 #[.string a1_0, .slice A1_1 l1_1.length c1_1, .int .i64 a1_2] ?_; intro gb102 hg w8 hbox hb; have _ := bB gb101 hb; have _ := aM (below_step hbZ hb); have _ := aM hbox; have _ := szZ hg; have _ := szZ hg; have ⟨_, _⟩ := nbB gb101 hg; clear BK101 HB; rename_i BK101 HB BK102 GW102 GE102 NB101_102 NB102_101; clear hb hbox hg; have hnb9 := NB101_102.out; have hnc9 := NB102_101.out; have hz10 := cellsZ3 BK101.out; have hz11 := cellsZ3 BK102.out) | ((with_reducible refine gate_callee (f := 52) rfl ?_); refine gL 14 Tryd.func52 #[.slice A0_1 l0_1.length c0_1, .slice A1_1 l1_1.length c1_1] ?_; (with_reducible refine (laws_eqTagS.calls k _ _ l0_1 _ _ l1_1 true _ ?side1 ?side2 ?side3 ?side4 A4.out).mono ?_); (case side1 => exact (cZ (Kd.C_below HR0_1.out HB.out))); (case side2 => exact HC0_1.out); (case side3 => exact (cZ (Kd.C_below HR1_1.out HB.out))); (case side4 => exact HC1_1.out); rintro e w12 ⟨rfl, hb⟩; refine ⟨_, rfl, ?_⟩; have _ := bB gb101 hb; have _ := bB gb102 hb; have _ := aM (below_step hbZ hb); clear BK101 BK102 HB; rename_i BK101 BK102 HB; (try clear hb); have hz13 := cellsZ3 BK101.out; have hz14 := cellsZ3 BK102.out))
   go_ret
   exact ⟨z674d, zcb41⟩
 · replace c5 := Bool.eq_false_iff.mpr c5
   subst c5
   rw [if_neg (show ¬ (false = true) by decide)] at H
   exact absurd H (by simp)
end Go.Proofs.YtkgmoajdcibafaaDoor.P

-- written by a program of this session's (wip/pp)
namespace Go.Proofs.YtkgmoajdcibafaaDoor.P
open Go.RowKit Go.Proofs.YtkgmoajdcibafaaDoorW.PrintWords Go.Proofs.YtkgmoajdcibafaaDoorW.PrintLast Go.Proofs.YtkgmoajdcibafaaDoorW.PrintMore
attribute [local go_sem] max2_int min2_int max_two min_two max_three min_three max_four min_four str_geq str_gtr str_leq   -- for this text's walks alone
set_option linter.unusedVariables false
set_option linter.unusedSimpArgs false

/-! ### laws_eqIntS: function 95 -/
def laws_eqIntS.l0 : Nat → List Int → List Int → Int → Option (Bool)
 | 0, _, _, _ => none
 | k + 1, x0, x1, x5 => if x5 < (x0.length : Int) then (if 0 ≤ x5 then (if x5 < (x1.length : Int) then (if (rd x0 x5) = (rd x1 x5) then (laws_eqIntS.l0 k x0 x1 (wrap64 (x5 + 1))) else (none)) else (none)) else (none)) else (some true)
def laws_eqIntS.f (k : Nat) (l0 : List Int) (l1 : List Int) : Option (Bool) := if (l0.length : Int) = (l1.length : Int) then (laws_eqIntS.l0 k l0 l1 0) else (none)
theorem laws_eqIntS.mono_l : ∀ k, (∀ y0 y1 y2, LeO (laws_eqIntS.l0 k y0 y1 y2) (laws_eqIntS.l0 (k + 1) y0 y1 y2))
 | 0 => fun _ _ _ r h => by simp [laws_eqIntS.l0] at h
 | k + 1 => by
  have ih0 := laws_eqIntS.mono_l k
  · intro y0 y1 y2
    unfold laws_eqIntS.l0
    exact moZ
theorem laws_eqIntS.mono : ∀ a0 a1 k, LeO (laws_eqIntS.f k a0 a1) (laws_eqIntS.f (k + 1) a0 a1) := by
 intro a0 a1 k
 have ih0 := laws_eqIntS.mono_l k
 unfold laws_eqIntS.f
 exact moZ
set_option maxHeartbeats 8000000 in
set_option maxRecDepth 100000 in
theorem laws_eqIntS.calls (k : Nat) (A0 : Option Addr) (c0 : Nat) (l0 : List Int) (A1 : Option Addr) (c1 : Nat) (l1 : List Int) (r : Bool) (w : World) (hr0 : Kd.C (Kd.int .i64) w A0 l0.length l0) (hc0 : l0.length ≤ c0) (hr1 : Kd.C (Kd.int .i64) w A1 l1.length l1) (hc1 : l1.length ≤ c1) (h : laws_eqIntS.f k l0 l1 = some r) :
 Calls Tryd.prog 95 #[.slice A0 l0.length c0, .slice A1 l1.length c1] w fun e w' => e = .returned (.bool r) ∧ Drawn0 w w' := by
 have HR0 := aM hr0
 have HC0 := aM hc0
 clear hr0 hc0
 have HR1 := aM hr1
 have HC1 := aM hc1
 clear hr1 hc1
 have H : (if (l0.length : Int) = (l1.length : Int) then (laws_eqIntS.l0 k l0 l1 0) else (none)) = some r := h
 clear h
 replace H := ifS H; obtain ⟨c3, H⟩ := H
 have c3b0 := eqE c3
 have c3b2 : (l0.length == l1.length) = true := by first | simpa using c3 | (simp at c3 ⊢; omega)
 clear c3
 have H' := aM H
 clear H
 go_enter Tryd.func95, Tryd.ntmps95
 go_wp2
 repeat (go_quiet (fail); try go_wp2)
 go_loopg [5] k (fun kq v5 w' => ∃ (x5_1 : Int), v5 = .int .i64 x5_1 ∧ Aside0 (laws_eqIntS.l0 kq l0 l1 x5_1 = some r) ∧ Aside0 (kq ≤ k) ∧ Drawn0 w w')
 case atStart => exact ⟨(0), z4458, H', ⟨Nat.le_refl _⟩, za9de⟩
 case round =>
  clear H'
  (try clear c1); (try clear c3b0); (try clear c3b2)
  obtain ⟨x5_1, rfl, HA, HK1, ⟨m1, rfl⟩⟩ := hrel
  cases gk with
  | zero => exact absurd HA.out (by simp [laws_eqIntS.l0])
  | succ k1 =>
   have H := HA.out
   clear HA
   simp only [laws_eqIntS.l0] at H
   by_cases c4 : x5_1 < (l0.length : Int)
   · rw [if_pos c4] at H
     have c4b0 := dL c4
     clear c4
     obtain ⟨c5b0, H⟩ := sE H
     obtain ⟨c6b0, H⟩ := sL H
     replace H := ifS H; obtain ⟨c7, H⟩ := H
     have c7b0 := eqE c7
     clear c7
     have H' := aM H
     clear H
     have p101 : 0 ≤ (x5_1 : Int) := of_decide_eq_true z1200
     have q101 : x5_1 < (l0.length : Int) := of_decide_eq_true z1200
     obtain ⟨ad101, e101, hx101_0⟩ := Kd.at_int HR0.out x5_1 p101 q101
     cases e101
     replace p101 := eq_true p101
     replace q101 := eq_true q101
     have p102 : 0 ≤ (x5_1 : Int) := of_decide_eq_true z1200
     have q102 : x5_1 < (l1.length : Int) := of_decide_eq_true z1200
     obtain ⟨ad102, e102, hx102_0⟩ := Kd.at_int HR1.out x5_1 p102 q102
     cases e102
     replace p102 := eq_true p102
     replace q102 := eq_true q102
     go_wp2
     repeat (go_quiet (fail); try go_wp2)
     go_roundg k1
     case measure => have := HK1.out; omega
     case rel => exact ⟨(wrap64 (x5_1 + 1)), z4458, H', ⟨zfb39⟩, za9de⟩
   · rw [if_neg c4] at H
     have c4b0 := nL c4
     clear c4
     obtain rfl := Option.some.inj H
     go_wp2
     repeat (go_quiet (fail); try go_wp2)
     go_ret
     exact ⟨z4458, za9de⟩
end Go.Proofs.YtkgmoajdcibafaaDoor.P

-- written by a program of this session's (wip/pp)
namespace Go.Proofs.YtkgmoajdcibafaaDoor.P
open Go.RowKit Go.Proofs.YtkgmoajdcibafaaDoorW.PrintWords Go.Proofs.YtkgmoajdcibafaaDoorW.PrintLast Go.Proofs.YtkgmoajdcibafaaDoorW.PrintMore
attribute [local go_sem] max2_int min2_int max_two min_two max_three min_three max_four min_four str_geq str_gtr str_leq   -- for this text's walks alone
set_option linter.unusedVariables false
set_option linter.unusedSimpArgs false

/-! ### laws_eqAgg: function 50 -/
def laws_eqAgg.f (k : Nat) (a0_0 : Int) (a0_1 : Int) (a0_2 : Int) (a0_3 : Int) (l0_4 : List Int) (a0_5 : Bool) (a1_0 : Int) (a1_1 : Int) (a1_2 : Int) (a1_3 : Int) (l1_4 : List Int) (a1_5 : Bool) : Option (Bool) := if a0_0 = a1_0 then (if a0_1 = a1_1 then (if a0_2 = a1_2 then (if a0_3 = a1_3 then ((laws_eqIntS.f k l0_4 l1_4).bind fun t103 => (if t103 = true then (if (a0_5 != a1_5) = true then (none) else (some true)) else (none))) else (none)) else (none)) else (none)) else (none)
theorem laws_eqAgg.mono : ∀ a0 a1 a2 a3 a4 a5 a6 a7 a8 a9 a10 a11 k, LeO (laws_eqAgg.f k a0 a1 a2 a3 a4 a5 a6 a7 a8 a9 a10 a11) (laws_eqAgg.f (k + 1) a0 a1 a2 a3 a4 a5 a6 a7 a8 a9 a10 a11) := by
 intro a0 a1 a2 a3 a4 a5 a6 a7 a8 a9 a10 a11 k
 have m0 := @laws_eqIntS.mono
 unfold laws_eqAgg.f
 exact moZ
set_option maxHeartbeats 8000000 in
set_option maxRecDepth 100000 in
theorem laws_eqAgg.calls (k : Nat) (a0_0 : Int) (a0_1 : Int) (a0_2 : Int) (a0_3 : Int) (A0_4 : Option Addr) (c0_4 : Nat) (l0_4 : List Int) (a0_5 : Bool) (a1_0 : Int) (a1_1 : Int) (a1_2 : Int) (a1_3 : Int) (A1_4 : Option Addr) (c1_4 : Nat) (l1_4 : List Int) (a1_5 : Bool) (r : Bool) (w : World) (hr0_4 : Kd.C (Kd.int .i64) w A0_4 l0_4.length l0_4) (hc0_4 : l0_4.length ≤ c0_4) (hr1_4 : Kd.C (Kd.int .i64) w A1_4 l1_4.length l1_4) (hc1_4 : l1_4.length ≤ c1_4) (h : laws_eqAgg.f k a0_0 a0_1 a0_2 a0_3 l0_4 a0_5 a1_0 a1_1 a1_2 a1_3 l1_4 a1_5 = some r) :
 Calls Tryd.prog 50 #[.agg #[.int .i64 a0_0, .int .i64 a0_1, .int .i64 a0_2, .int .i64 a0_3, .slice A0_4 l0_4.length c0_4, .bool a0_5], .agg #[.int .i64 a1_0, .int .i64 a1_1, .int .i64 a1_2, .int .i64 a1_3, .slice A1_4 l1_4.length c1_4, .bool a1_5]] w fun e w' => e = .returned (.bool r) ∧ Below w.heap.size w w' := by
 have hu35 := Tryd.underlying35
 have HR0_4 := aM hr0_4
 have HC0_4 := aM hc0_4
 clear hr0_4 hc0_4
 have HR1_4 := aM hr1_4
 have HC1_4 := aM hc1_4
 clear hr1_4 hc1_4
 have HB := aM (Below.refl w.heap.size w)
 have H : (if a0_0 = a1_0 then (if a0_1 = a1_1 then (if a0_2 = a1_2 then (if a0_3 = a1_3 then ((laws_eqIntS.f k l0_4 l1_4).bind fun t103 => (if t103 = true then (if (a0_5 != a1_5) = true then (none) else (some true)) else (none))) else (none)) else (none)) else (none)) else (none)) = some r := h
 clear h
 replace H := ifS H; obtain ⟨c3, H⟩ := H
 have c3b0 := eqE c3
 clear c3
 replace H := ifS H; obtain ⟨c4, H⟩ := H
 have c4b0 := eqE c4
 clear c4
 replace H := ifS H; obtain ⟨c5, H⟩ := H
 have c5b0 := eqE c5
 clear c5
 replace H := ifS H; obtain ⟨c6, H⟩ := H
 have c6b0 := eqE c6
 clear c6
 obtain ⟨t103, A7, H⟩ := bS H; try dsimp only at H
 by_cases c8 : t103 = true
 · subst c8
   rw [if_pos rfl] at H
   replace H := ifN H; obtain ⟨c9, H⟩ := H
   have c9b0 : (a0_5 != a1_5) = false := by simpa using c9
   (try (have c9b1 : decide (a0_5 = a1_5) = true := by simpa using c9))
   (try (have c9b2 : (a0_5 == a1_5) = true := by simpa using c9))
   clear c9
   obtain rfl := Option.some.inj H
   go_enter Tryd.func50, Tryd.ntmps50
   go_wp2_with (first | ((with_reducible refine gate_dst (N := 2) rfl ?_); refine bX 2 35 #[.int .i64 a0_0, .int .i64 a0_1, .int .i64 a0_2, .int .i64 a0_3, .slice A0_4 l0_4.length c0_4, .bool a0_5] ?_; intro gb101 hg w10 hbox hb; have _ := aM (below_step hbZ hb); have _ := aM hbox; have _ := szZ hg; have _ := szZ hg; clear HB; rename_i HB BK101 GW101 GE101; clear hb hbox hg) | ((with_reducible refine gate_dst (N := 3) rfl ?_); refine bX 3 35 #[.int .i64 a1_0, .int .i64 a1_1, .int .i64 a1_2, .int .i64 a1_3, .slice A1_4 l1_4.length c1_4, .bool a1_5] ?_; intro gb102 hg w11 hbox hb; have _ := bB gb101 hb; have _ := aM (below_step hbZ hb); have _ := aM hbox; have _ := szZ hg; have _ := szZ hg; have ⟨_, _⟩ := nbB gb101 hg; clear BK101 HB; rename_i BK101 HB BK102 GW102 GE102 NB101_102 NB102_101; clear hb hbox hg; have hnb12 := NB101_102.out; have hnc12 := NB102_101.out; have hz13 := cellsZ6 BK101.out; have hz14 := cellsZ6 BK102.out) | ((with_reducible refine gate_callee (f := 95) rfl ?_); refine gL 29 Tryd.func95 #[.slice A0_4 l0_4.length c0_4, .slice A1_4 l1_4.length c1_4] ?_; (with_reducible refine (laws_eqIntS.calls k _ _ l0_4 _ _ l1_4 true _ ?side1 ?side2 ?side3 ?side4 A7.out).mono ?_); (case side1 => exact (cZ (Kd.C_below HR0_4.out HB.out))); (case side2 => exact HC0_4.out); (case side3 => exact (cZ (Kd.C_below HR1_4.out HB.out))); (case side4 => exact HC1_4.out); rintro e w' ⟨rfl, ⟨nd, rfl⟩⟩; refine ⟨_, rfl, ?_⟩))
   go_ret
   exact ⟨z674d, zcb41⟩
 · replace c8 := Bool.eq_false_iff.mpr c8
   subst c8
   rw [if_neg (show ¬ (false = true) by decide)] at H
   exact absurd H (by simp)
end Go.Proofs.YtkgmoajdcibafaaDoor.P

-- written by a program of this session's (wip/pp)
namespace Go.Proofs.YtkgmoajdcibafaaDoor.P
open Go.RowKit Go.Proofs.YtkgmoajdcibafaaDoorW.PrintWords Go.Proofs.YtkgmoajdcibafaaDoorW.PrintLast Go.Proofs.YtkgmoajdcibafaaDoorW.PrintMore
attribute [local go_sem] max2_int min2_int max_two min_two max_three min_three max_four min_four str_geq str_gtr str_leq   -- for this text's walks alone
set_option linter.unusedVariables false
set_option linter.unusedSimpArgs false

/-! ### laws_eqWin: function 14 -/
def laws_eqWin.f (k : Nat) (a0_0 : ByteArray) (l0_1 : List (S123)) (a0_2 : Int) (a0_3 : Int) (a0_4 : Int) (a0_5 : Int) (a0_6 : Int) (l0_7 : List Int) (a0_8 : Bool) (a0_9 : Int) (a0_10 : Bool) (a1_0 : ByteArray) (l1_1 : List (S123)) (a1_2 : Int) (a1_3 : Int) (a1_4 : Int) (a1_5 : Int) (a1_6 : Int) (l1_7 : List Int) (a1_8 : Bool) (a1_9 : Int) (a1_10 : Bool) : Option (Bool) := (laws_eqKey.f k a0_0 l0_1 a0_2 a1_0 l1_1 a1_2).bind fun t103 => (if t103 = true then ((laws_eqAgg.f k a0_3 a0_4 a0_5 a0_6 l0_7 a0_8 a1_3 a1_4 a1_5 a1_6 l1_7 a1_8).bind fun t104 => (if t104 = true then (if a0_9 = a1_9 then (if (a0_10 != a1_10) = true then (none) else (some true)) else (none)) else (none))) else (none))
theorem laws_eqWin.mono : ∀ a0 a1 a2 a3 a4 a5 a6 a7 a8 a9 a10 a11 a12 a13 a14 a15 a16 a17 a18 a19 a20 a21 k, LeO (laws_eqWin.f k a0 a1 a2 a3 a4 a5 a6 a7 a8 a9 a10 a11 a12 a13 a14 a15 a16 a17 a18 a19 a20 a21) (laws_eqWin.f (k + 1) a0 a1 a2 a3 a4 a5 a6 a7 a8 a9 a10 a11 a12 a13 a14 a15 a16 a17 a18 a19 a20 a21) := by
 intro a0 a1 a2 a3 a4 a5 a6 a7 a8 a9 a10 a11 a12 a13 a14 a15 a16 a17 a18 a19 a20 a21 k
 have m0 := @laws_eqAgg.mono; have m1 := @laws_eqKey.mono
 unfold laws_eqWin.f
 exact moZ
set_option maxHeartbeats 8000000 in
set_option maxRecDepth 100000 in
theorem laws_eqWin.calls (k : Nat) (a0_0 : ByteArray) (A0_1 : Option Addr) (c0_1 : Nat) (l0_1 : List (S123)) (a0_2 : Int) (a0_3 : Int) (a0_4 : Int) (a0_5 : Int) (a0_6 : Int) (A0_7 : Option Addr) (c0_7 : Nat) (l0_7 : List Int) (a0_8 : Bool) (a0_9 : Int) (a0_10 : Bool) (a1_0 : ByteArray) (A1_1 : Option Addr) (c1_1 : Nat) (l1_1 : List (S123)) (a1_2 : Int) (a1_3 : Int) (a1_4 : Int) (a1_5 : Int) (a1_6 : Int) (A1_7 : Option Addr) (c1_7 : Nat) (l1_7 : List Int) (a1_8 : Bool) (a1_9 : Int) (a1_10 : Bool) (r : Bool) (w : World) (hr0_1 : Kd.C k123 w A0_1 l0_1.length l0_1) (hc0_1 : l0_1.length ≤ c0_1) (hr0_7 : Kd.C (Kd.int .i64) w A0_7 l0_7.length l0_7) (hc0_7 : l0_7.length ≤ c0_7) (hr1_1 : Kd.C k123 w A1_1 l1_1.length l1_1) (hc1_1 : l1_1.length ≤ c1_1) (hr1_7 : Kd.C (Kd.int .i64) w A1_7 l1_7.length l1_7) (hc1_7 : l1_7.length ≤ c1_7) (h : laws_eqWin.f k a0_0 l0_1 a0_2 a0_3 a0_4 a0_5 a0_6 l0_7 a0_8 a0_9 a0_10 a1_0 l1_1 a1_2 a1_3 a1_4 a1_5 a1_6 l1_7 a1_8 a1_9 a1_10 = some r) :
 Calls Tryd.prog 14 #[.agg #[.string a0_0, .slice A0_1 l0_1.length c0_1, .int .i64 a0_2, .int .i64 a0_3, .int .i64 a0_4, .int .i64 a0_5, .int .i64 a0_6, .slice A0_7 l0_7.length c0_7, .bool a0_8, .int .i64 a0_9, .bool a0_10], .agg #[.string a1_0, .slice A1_1 l1_1.length c1_1, .int .i64 a1_2, .int .i64 a1_3, .int .i64 a1_4, .int .i64 a1_5, .int .i64 a1_6, .slice A1_7 l1_7.length c1_7, .bool a1_8, .int .i64 a1_9, .bool a1_10]] w fun e w' => e = .returned (.bool r) ∧ Below w.heap.size w w' := by
 have hu37 := Tryd.underlying37
 have hu32 := Tryd.underlying32
 have hu35 := Tryd.underlying35
 have HR0_1 := aM hr0_1
 have HC0_1 := aM hc0_1
 clear hr0_1 hc0_1
 have HR0_7 := aM hr0_7
 have HC0_7 := aM hc0_7
 clear hr0_7 hc0_7
 have HR1_1 := aM hr1_1
 have HC1_1 := aM hc1_1
 clear hr1_1 hc1_1
 have HR1_7 := aM hr1_7
 have HC1_7 := aM hc1_7
 clear hr1_7 hc1_7
 have HB := aM (Below.refl w.heap.size w)
 have H : ((laws_eqKey.f k a0_0 l0_1 a0_2 a1_0 l1_1 a1_2).bind fun t103 => (if t103 = true then ((laws_eqAgg.f k a0_3 a0_4 a0_5 a0_6 l0_7 a0_8 a1_3 a1_4 a1_5 a1_6 l1_7 a1_8).bind fun t104 => (if t104 = true then (if a0_9 = a1_9 then (if (a0_10 != a1_10) = true then (none) else (some true)) else (none)) else (none))) else (none))) = some r := h
 clear h
 obtain ⟨t103, A3, H⟩ := bS H; try dsimp only at H
 by_cases c4 : t103 = true
 · subst c4
   rw [if_pos rfl] at H
   obtain ⟨t104, A5, H⟩ := bS H; try dsimp only at H
   by_cases c6 : t104 = true
   · subst c6
     rw [if_pos rfl] at H
     replace H := ifS H; obtain ⟨c7, H⟩ := H
     have c7b0 := eqE c7
     clear c7
     replace H := ifN H; obtain ⟨c8, H⟩ := H
     have c8b0 : (a0_10 != a1_10) = false := by simpa using c8
     (try (have c8b1 : decide (a0_10 = a1_10) = true := by simpa using c8))
     (try (have c8b2 : (a0_10 == a1_10) = true := by simpa using c8))
     clear c8
     obtain rfl := Option.some.inj H
     go_enter Tryd.func14, Tryd.ntmps14
     go_wp2_with (first | ((with_reducible refine gate_dst (N := 2) rfl ?_); refine bX 2 37 #[.string a0_0, .slice A0_1 l0_1.length c0_1, .int .i64 a0_2, .int .i64 a0_3, .int .i64 a0_4, .int .i64 a0_5, .int .i64 a0_6, .slice A0_7 l0_7.length c0_7, .bool a0_8, .int .i64 a0_9, .bool a0_10] ?_; intro gb101 hg w9 hbox hb; have _ := aM (below_step hbZ hb); have _ := aM hbox; have _ := szZ hg; have _ := szZ hg; clear HB; rename_i HB BK101 GW101 GE101; clear hb hbox hg) | ((with_reducible refine gate_dst (N := 3) rfl ?_); refine bX 3 37 #[.string a1_0, .slice A1_1 l1_1.length c1_1, .int .i64 a1_2, .int .i64 a1_3, .int .i64 a1_4, .int .i64 a1_5, .int .i64 a1_6, .slice A1_7 l1_7.length c1_7, .bool a1_8, .int .i64 a1_9, .bool a1_10] ?_; intro gb102 hg w10 hbox hb; have _ := bB gb101 hb; have _ := aM (below_step hbZ hb); have _ := aM hbox; have _ := szZ hg; have _ := szZ hg; have ⟨_, _⟩ := nbB gb101 hg; clear BK101 HB; rename_i BK101 HB BK102 GW102 GE102 NB101_102 NB102_101; clear hb hbox hg; have hnb11 := NB101_102.out; have hnc11 := NB102_101.out; have hz12 := cellsZ11 BK101.out; have hz13 := cellsZ11 BK102.out) | ((with_reducible refine gate_callee (f := 16) rfl ?_); refine gL 9 Tryd.func16 #[.agg #[.string a0_0, .slice A0_1 l0_1.length c0_1, .int .i64 a0_2], .agg #[.string a1_0, .slice A1_1 l1_1.length c1_1, .int .i64 a1_2]] ?_; (with_reducible refine (laws_eqKey.calls k a0_0 _ _ l0_1 a0_2 a1_0 _ _ l1_1 a1_2 true _ ?side1 ?side2 ?side3 ?side4 A3.out).mono ?_); (case side1 => exact (cZ (Kd.C_below HR0_1.out HB.out))); (case side2 => exact HC0_1.out); (case side3 => exact (cZ (Kd.C_below HR1_1.out HB.out))); (case side4 => exact HC1_1.out); rintro e w14 ⟨rfl, hb⟩; refine ⟨_, rfl, ?_⟩; have _ := bB gb101 hb; have _ := bB gb102 hb; have _ := aM (below_step hbZ hb); clear BK101 BK102 HB; rename_i BK101 BK102 HB; (try clear hb); have hz15 := cellsZ11 BK101.out; have hz16 := cellsZ11 BK102.out) | ((with_reducible refine gate_callee (f := 50) rfl ?_); refine gL 15 Tryd.func50 #[.agg #[.int .i64 a0_3, .int .i64 a0_4, .int .i64 a0_5, .int .i64 a0_6, .slice A0_7 l0_7.length c0_7, .bool a0_8], .agg #[.int .i64 a1_3, .int .i64 a1_4, .int .i64 a1_5, .int .i64 a1_6, .slice A1_7 l1_7.length c1_7, .bool a1_8]] ?_; (with_reducible refine (laws_eqAgg.calls k a0_3 a0_4 a0_5 a0_6 _ _ l0_7 a0_8 a1_3 a1_4 a1_5 a1_6 _ _ l1_7 a1_8 true _ ?side1 ?side2 ?side3 ?side4 A5.out).mono ?_); (case side1 => exact (cZ (Kd.C_below HR0_7.out HB.out))); (case side2 => exact HC0_7.out); (case side3 => exact (cZ (Kd.C_below HR1_7.out HB.out))); (case side4 => exact HC1_7.out); rintro e w17 ⟨rfl, hb⟩; refine ⟨_, rfl, ?_⟩; have _ := bB gb101 hb; have _ := bB gb102 hb; have _ := aM (below_step hbZ hb); clear BK101 BK102 HB; rename_i BK101 BK102 HB; (try clear hb); have hz18 := cellsZ11 BK101.out; have hz19 := cellsZ11 BK102.out))
     go_ret
     exact ⟨z674d, zcb41⟩
   · replace c6 := Bool.eq_false_iff.mpr c6
     subst c6
     rw [if_neg (show ¬ (false = true) by decide)] at H
     exact absurd H (by simp)
 · replace c4 := Bool.eq_false_iff.mpr c4
   subst c4
   rw [if_neg (show ¬ (false = true) by decide)] at H
   exact absurd H (by simp)

end Go.Proofs.YtkgmoajdcibafaaDoor.P

-- written by a program of this session's (wip/pp)
namespace Go.Proofs.YtkgmoajdcibafaaDoor.P
open Go.RowKit Go.Proofs.YtkgmoajdcibafaaDoorW.PrintWords Go.Proofs.YtkgmoajdcibafaaDoorW.PrintLast Go.Proofs.YtkgmoajdcibafaaDoorW.PrintMore
attribute [local go_sem] max2_int min2_int max_two min_two max_three min_three max_four min_four str_geq str_gtr str_leq   -- for this text's walks alone
set_option linter.unusedVariables false
set_option linter.unusedSimpArgs false

/-! ### laws_eqWinS: function 51 -/
def laws_eqWinS.l0 : Nat → List (S37) → List (S37) → Int → Option (Bool)
 | 0, _, _, _ => none
 | k + 1, x0, x1, x5 => if x5 < (x0.length : Int) then (if 0 ≤ x5 then (if x5 < (x1.length : Int) then ((laws_eqWin.f k ((rd_T37 x0 x5).f0.f0) ((rd_T37 x0 x5).f0.f1) ((rd_T37 x0 x5).f0.f2) ((rd_T37 x0 x5).f1.f0) ((rd_T37 x0 x5).f1.f1) ((rd_T37 x0 x5).f1.f2) ((rd_T37 x0 x5).f1.f3) ((rd_T37 x0 x5).f1.f4) ((rd_T37 x0 x5).f1.f5) ((rd_T37 x0 x5).f2) ((rd_T37 x0 x5).f3) ((rd_T37 x1 x5).f0.f0) ((rd_T37 x1 x5).f0.f1) ((rd_T37 x1 x5).f0.f2) ((rd_T37 x1 x5).f1.f0) ((rd_T37 x1 x5).f1.f1) ((rd_T37 x1 x5).f1.f2) ((rd_T37 x1 x5).f1.f3) ((rd_T37 x1 x5).f1.f4) ((rd_T37 x1 x5).f1.f5) ((rd_T37 x1 x5).f2) ((rd_T37 x1 x5).f3)).bind fun t103 => (if t103 = true then (laws_eqWinS.l0 k x0 x1 (wrap64 (x5 + 1))) else (none))) else (none)) else (none)) else (some true)
def laws_eqWinS.f (k : Nat) (l0 : List (S37)) (l1 : List (S37)) : Option (Bool) := if (l0.length : Int) = (l1.length : Int) then (laws_eqWinS.l0 k l0 l1 0) else (none)
theorem laws_eqWinS.mono_l : ∀ k, (∀ y0 y1 y2, LeO (laws_eqWinS.l0 k y0 y1 y2) (laws_eqWinS.l0 (k + 1) y0 y1 y2))
 | 0 => fun _ _ _ r h => by simp [laws_eqWinS.l0] at h
 | k + 1 => by
  have ih0 := laws_eqWinS.mono_l k; have m0 := @laws_eqWin.mono
  · intro y0 y1 y2
    unfold laws_eqWinS.l0
    exact moZ
theorem laws_eqWinS.mono : ∀ a0 a1 k, LeO (laws_eqWinS.f k a0 a1) (laws_eqWinS.f (k + 1) a0 a1) := by
 intro a0 a1 k
 have ih0 := laws_eqWinS.mono_l k
 have m0 := @laws_eqWin.mono
 unfold laws_eqWinS.f
 exact moZ
def laws_eqWinS.T6 : Bool × List (List Nat × List Nat) := (true, [([], []), ([], []), ([0, 1], [0, 1]), ([2], [2]), ([], []), ([], []), ([4, 5], [4, 5]), ([6], [6]), ([3, 7], [3, 7]), ([8], [8])])
def laws_eqWinS.B6 : List Nat := [0, 0, 3, 7, 0, 0, 48, 112, 255, 511]
theorem laws_eqWinS.tab6 : rtab .any (opsOf Tryd.f51 6) = laws_eqWinS.T6 := by kernel_rfl
theorem laws_eqWinS.bits6 : waitsOk laws_eqWinS.T6.2 laws_eqWinS.B6 = true := by kernel_rfl
set_option maxHeartbeats 8000000 in
set_option maxRecDepth 100000 in
theorem laws_eqWinS.calls (k : Nat) (A0 : Option Addr) (c0 : Nat) (l0 : List (S37)) (A1 : Option Addr) (c1 : Nat) (l1 : List (S37)) (r : Bool) (w : World) (hr0 : Kd.C k37 w A0 l0.length l0) (hc0 : l0.length ≤ c0) (hr1 : Kd.C k37 w A1 l1.length l1) (hc1 : l1.length ≤ c1) (h : laws_eqWinS.f k l0 l1 = some r) :
 Calls Tryd.prog 51 #[.slice A0 l0.length c0, .slice A1 l1.length c1] w fun e w' => e = .returned (.bool r) ∧ Below w.heap.size w w' := by
 have hu37 := Tryd.underlying37
 have HR0 := aM hr0
 have HC0 := aM hc0
 clear hr0 hc0
 have HR1 := aM hr1
 have HC1 := aM hc1
 clear hr1 hc1
 have HB := aM (Below.refl w.heap.size w)
 have H : (if (l0.length : Int) = (l1.length : Int) then (laws_eqWinS.l0 k l0 l1 0) else (none)) = some r := h
 clear h
 replace H := ifS H; obtain ⟨c3, H⟩ := H
 have c3b0 := eqE c3
 have c3b2 : (l0.length == l1.length) = true := by first | simpa using c3 | (simp at c3 ⊢; omega)
 clear c3
 have H' := aM H
 clear H
 go_enter Tryd.func51, Tryd.ntmps51
 go_wp2
 go_loopg [5] k (fun kq v5 w' => ∃ (x5_1 : Int), v5 = .int .i64 x5_1 ∧ Aside0 (laws_eqWinS.l0 kq l0 l1 x5_1 = some r) ∧ Aside0 (kq ≤ k) ∧ Aside0 (Below w.heap.size w w'))
 case atStart => exact ⟨(0), z4458, H', ⟨Nat.le_refl _⟩, ⟨z5acd⟩⟩
 case round =>
  clear H'
  (try clear c1); (try clear c3b0); (try clear c3b2)
  obtain ⟨x5_1, rfl, HA, HK1, HB⟩ := hrel
  cases gk with
  | zero => exact absurd HA.out (by simp [laws_eqWinS.l0])
  | succ k1 =>
   have H := HA.out
   clear HA
   simp only [laws_eqWinS.l0] at H
   by_cases c4 : x5_1 < (l0.length : Int)
   · rw [if_pos c4] at H
     have c4b0 := dL c4
     clear c4
     obtain ⟨c5b0, H⟩ := sE H
     obtain ⟨c6b0, H⟩ := sL H
     obtain ⟨t103, A7, H⟩ := bS H; try dsimp only at H
     by_cases c8 : t103 = true
     · subst c8
       rw [if_pos rfl] at H
       have H' := aM H
       clear H
       try go_wp2
       have _ := aM (below_drew1 HB.out)
       clear HB
       rename_i HB
       have p101 : 0 ≤ (x5_1 : Int) := of_decide_eq_true z1200
       have q101 : x5_1 < (l0.length : Int) := of_decide_eq_true z1200
       obtain ⟨ad101, A101_1, c101_1, A101_7, c101_7, e101, hx101_0, hx101_1, hx101_2, hx101_3, hx101_4, hx101_5, hx101_6, hx101_7, hx101_8, hx101_9, hx101_10, hl101_1, hi101_1, hl101_7, hi101_7⟩ := at_T37 HR0.out x5_1 p101 q101
       have hw101_10 := hx101_10
       have hw101_9 := hx101_9
       have hw101_8 := hx101_8
       have hw101_7 := hx101_7
       have hw101_6 := hx101_6
       have hw101_5 := hx101_5
       have hw101_4 := hx101_4
       have hw101_3 := hx101_3
       have hw101_2 := hx101_2
       have hw101_1 := hx101_1
       have hw101_0 := hx101_0
       cases e101
       have TW101_1 := aM hx101_1
       have TW101_7 := aM hx101_7
       replace hx101_0 := (HB.out.cell (World.block_lt_of_cell? w _ hx101_0)).trans hx101_0
       replace hx101_1 := (HB.out.cell (World.block_lt_of_cell? w _ hx101_1)).trans hx101_1
       replace hx101_2 := (HB.out.cell (World.block_lt_of_cell? w _ hx101_2)).trans hx101_2
       replace hx101_3 := (HB.out.cell (World.block_lt_of_cell? w _ hx101_3)).trans hx101_3
       replace hx101_4 := (HB.out.cell (World.block_lt_of_cell? w _ hx101_4)).trans hx101_4
       replace hx101_5 := (HB.out.cell (World.block_lt_of_cell? w _ hx101_5)).trans hx101_5
       replace hx101_6 := (HB.out.cell (World.block_lt_of_cell? w _ hx101_6)).trans hx101_6
       replace hx101_7 := (HB.out.cell (World.block_lt_of_cell? w _ hx101_7)).trans hx101_7
       replace hx101_8 := (HB.out.cell (World.block_lt_of_cell? w _ hx101_8)).trans hx101_8
       replace hx101_9 := (HB.out.cell (World.block_lt_of_cell? w _ hx101_9)).trans hx101_9
       replace hx101_10 := (HB.out.cell (World.block_lt_of_cell? w _ hx101_10)).trans hx101_10
       have HR101_1 := aM hi101_1
       have HC101_1 := aM hl101_1
       clear hi101_1 hl101_1
       have HR101_7 := aM hi101_7
       have HC101_7 := aM hl101_7
       clear hi101_7 hl101_7
       replace p101 := eq_true p101
       replace q101 := eq_true q101
       have p102 : 0 ≤ (x5_1 : Int) := of_decide_eq_true z1200
       have q102 : x5_1 < (l1.length : Int) := of_decide_eq_true z1200
       obtain ⟨ad102, A102_1, c102_1, A102_7, c102_7, e102, hx102_0, hx102_1, hx102_2, hx102_3, hx102_4, hx102_5, hx102_6, hx102_7, hx102_8, hx102_9, hx102_10, hl102_1, hi102_1, hl102_7, hi102_7⟩ := at_T37 HR1.out x5_1 p102 q102
       have hw102_10 := hx102_10
       have hw102_9 := hx102_9
       have hw102_8 := hx102_8
       have hw102_7 := hx102_7
       have hw102_6 := hx102_6
       have hw102_5 := hx102_5
       have hw102_4 := hx102_4
       have hw102_3 := hx102_3
       have hw102_2 := hx102_2
       have hw102_1 := hx102_1
       have hw102_0 := hx102_0
       cases e102
       have TW102_1 := aM hx102_1
       have TW102_7 := aM hx102_7
       replace hx102_0 := (HB.out.cell (World.block_lt_of_cell? w _ hx102_0)).trans hx102_0
       replace hx102_1 := (HB.out.cell (World.block_lt_of_cell? w _ hx102_1)).trans hx102_1
       replace hx102_2 := (HB.out.cell (World.block_lt_of_cell? w _ hx102_2)).trans hx102_2
       replace hx102_3 := (HB.out.cell (World.block_lt_of_cell? w _ hx102_3)).trans hx102_3
       replace hx102_4 := (HB.out.cell (World.block_lt_of_cell? w _ hx102_4)).trans hx102_4
       replace hx102_5 := (HB.out.cell (World.block_lt_of_cell? w _ hx102_5)).trans hx102_5
       replace hx102_6 := (HB.out.cell (World.block_lt_of_cell? w _ hx102_6)).trans hx102_6
       replace hx102_7 := (HB.out.cell (World.block_lt_of_cell? w _ hx102_7)).trans hx102_7
       replace hx102_8 := (HB.out.cell (World.block_lt_of_cell? w _ hx102_8)).trans hx102_8
       replace hx102_9 := (HB.out.cell (World.block_lt_of_cell? w _ hx102_9)).trans hx102_9
       replace hx102_10 := (HB.out.cell (World.block_lt_of_cell? w _ hx102_10)).trans hx102_10
       have HR102_1 := aM hi102_1
       have HC102_1 := aM hl102_1
       clear hi102_1 hl102_1
       have HR102_7 := aM hi102_7
       have HC102_7 := aM hl102_7
       clear hi102_7 hl102_7
       replace p102 := eq_true p102
       replace q102 := eq_true q102
       refine sA 10 laws_eqWinS.tab6 laws_eqWinS.bits6 (fun w' => w'.cell? (ad101.add ((x5_1).toNat * 11)) = some (.string ((rd_T37 l0 x5_1).f0.f0)) ∧ w'.cell? ⟨(ad101.add ((x5_1).toNat * 11)).block, (ad101.add ((x5_1).toNat * 11)).off + 1, none⟩ = some (.slice A101_1 ((rd_T37 l0 x5_1).f0.f1).length c101_1) ∧ w'.cell? ⟨(ad101.add ((x5_1).toNat * 11)).block, (ad101.add ((x5_1).toNat * 11)).off + 2, none⟩ = some (.int .i64 ((rd_T37 l0 x5_1).f0.f2)) ∧ w'.cell? ⟨(ad101.add ((x5_1).toNat * 11)).block, (ad101.add ((x5_1).toNat * 11)).off + 3, none⟩ = some (.int .i64 ((rd_T37 l0 x5_1).f1.f0)) ∧ w'.cell? ⟨(ad101.add ((x5_1).toNat * 11)).block, (ad101.add ((x5_1).toNat * 11)).off + 4, none⟩ = some (.int .i64 ((rd_T37 l0 x5_1).f1.f1)) ∧ w'.cell? ⟨(ad101.add ((x5_1).toNat * 11)).block, (ad101.add ((x5_1).toNat * 11)).off + 5, none⟩ = some (.int .i64 ((rd_T37 l0 x5_1).f1.f2)) ∧ w'.cell? ⟨(ad101.add ((x5_1).toNat * 11)).block, (ad101.add ((x5_1).toNat * 11)).off + 6, none⟩ = some (.int .i64 ((rd_T37 l0 x5_1).f1.f3)) ∧ w'.cell? ⟨(ad101.add ((x5_1).toNat * 11)).block, (ad101.add ((x5_1).toNat * 11)).off + 7, none⟩ = some (.slice A101_7 ((rd_T37 l0 x5_1).f1.f4).length c101_7) ∧ w'.cell? ⟨(ad101.add ((x5_1).toNat * 11)).block, (ad101.add ((x5_1).toNat * 11)).off + 8, none⟩ = some (.bool ((rd_T37 l0 x5_1).f1.f5)) ∧ w'.cell? ⟨(ad101.add ((x5_1).toNat * 11)).block, (ad101.add ((x5_1).toNat * 11)).off + 9, none⟩ = some (.int .i64 ((rd_T37 l0 x5_1).f2)) ∧ w'.cell? ⟨(ad101.add ((x5_1).toNat * 11)).block, (ad101.add ((x5_1).toNat * 11)).off + 10, none⟩ = some (.bool ((rd_T37 l0 x5_1).f3)) ∧ w'.cell? (ad102.add ((x5_1).toNat * 11)) = some (.string ((rd_T37 l1 x5_1).f0.f0)) ∧ w'.cell? ⟨(ad102.add ((x5_1).toNat * 11)).block, (ad102.add ((x5_1).toNat * 11)).off + 1, none⟩ = some (.slice A102_1 ((rd_T37 l1 x5_1).f0.f1).length c102_1) ∧ w'.cell? ⟨(ad102.add ((x5_1).toNat * 11)).block, (ad102.add ((x5_1).toNat * 11)).off + 2, none⟩ = some (.int .i64 ((rd_T37 l1 x5_1).f0.f2)) ∧ w'.cell? ⟨(ad102.add ((x5_1).toNat * 11)).block, (ad102.add ((x5_1).toNat * 11)).off + 3, none⟩ = some (.int .i64 ((rd_T37 l1 x5_1).f1.f0)) ∧ w'.cell? ⟨(ad102.add ((x5_1).toNat * 11)).block, (ad102.add ((x5_1).toNat * 11)).off + 4, none⟩ = some (.int .i64 ((rd_T37 l1 x5_1).f1.f1)) ∧ w'.cell? ⟨(ad102.add ((x5_1).toNat * 11)).block, (ad102.add ((x5_1).toNat * 11)).off + 5, none⟩ = some (.int .i64 ((rd_T37 l1 x5_1).f1.f2)) ∧ w'.cell? ⟨(ad102.add ((x5_1).toNat * 11)).block, (ad102.add ((x5_1).toNat * 11)).off + 6, none⟩ = some (.int .i64 ((rd_T37 l1 x5_1).f1.f3)) ∧ w'.cell? ⟨(ad102.add ((x5_1).toNat * 11)).block, (ad102.add ((x5_1).toNat * 11)).off + 7, none⟩ = some (.slice A102_7 ((rd_T37 l1 x5_1).f1.f4).length c102_7) ∧ w'.cell? ⟨(ad102.add ((x5_1).toNat * 11)).block, (ad102.add ((x5_1).toNat * 11)).off + 8, none⟩ = some (.bool ((rd_T37 l1 x5_1).f1.f5)) ∧ w'.cell? ⟨(ad102.add ((x5_1).toNat * 11)).block, (ad102.add ((x5_1).toNat * 11)).off + 9, none⟩ = some (.int .i64 ((rd_T37 l1 x5_1).f2)) ∧ w'.cell? ⟨(ad102.add ((x5_1).toNat * 11)).block, (ad102.add ((x5_1).toNat * 11)).off + 10, none⟩ = some (.bool ((rd_T37 l1 x5_1).f3))) [] (fun hHeld HT_ HW_ => ?_)
       generalize wr.drew = w9 at HB HR101_1 HR101_7 HR102_1 HR102_7 hx101_0 hx101_1 hx101_10 hx101_2 hx101_3 hx101_4 hx101_5 hx101_6 hx101_7 hx101_8 hx101_9 hx102_0 hx102_1 hx102_10 hx102_2 hx102_3 hx102_4 hx102_5 hx102_6 hx102_7 hx102_8 hx102_9 hHeld ⊢
       refine pA 0 17 HT_ ?_; refine pA 1 18 HT_ ?_; refine pA 2 19 HT_ ?_; refine pA 4 21 HT_ ?_; refine pA 5 22 HT_ ?_; refine pA 6 23 HT_ ?_; refine tA 3 20 HT_ HW_ hHeld ?_; refine tA 7 24 HT_ HW_ hHeld ?_; refine oA 8 25 HT_ (fun K hK => ?_)
       refine goes_ Tryd.func14 (by kernel_rfl) rfl #[.agg #[.string ((rd_T37 l0 x5_1).f0.f0), .slice A101_1 ((rd_T37 l0 x5_1).f0.f1).length c101_1, .int .i64 ((rd_T37 l0 x5_1).f0.f2), .int .i64 ((rd_T37 l0 x5_1).f1.f0), .int .i64 ((rd_T37 l0 x5_1).f1.f1), .int .i64 ((rd_T37 l0 x5_1).f1.f2), .int .i64 ((rd_T37 l0 x5_1).f1.f3), .slice A101_7 ((rd_T37 l0 x5_1).f1.f4).length c101_7, .bool ((rd_T37 l0 x5_1).f1.f5), .int .i64 ((rd_T37 l0 x5_1).f2), .bool ((rd_T37 l0 x5_1).f3)], .agg #[.string ((rd_T37 l1 x5_1).f0.f0), .slice A102_1 ((rd_T37 l1 x5_1).f0.f1).length c102_1, .int .i64 ((rd_T37 l1 x5_1).f0.f2), .int .i64 ((rd_T37 l1 x5_1).f1.f0), .int .i64 ((rd_T37 l1 x5_1).f1.f1), .int .i64 ((rd_T37 l1 x5_1).f1.f2), .int .i64 ((rd_T37 l1 x5_1).f1.f3), .slice A102_7 ((rd_T37 l1 x5_1).f1.f4).length c102_7, .bool ((rd_T37 l1 x5_1).f1.f5), .int .i64 ((rd_T37 l1 x5_1).f2), .bool ((rd_T37 l1 x5_1).f3)]] (by rfl) rfl rfl zee81 ?_
       with_reducible refine (laws_eqWin.calls k1 ((rd_T37 l0 x5_1).f0.f0) _ _ ((rd_T37 l0 x5_1).f0.f1) ((rd_T37 l0 x5_1).f0.f2) ((rd_T37 l0 x5_1).f1.f0) ((rd_T37 l0 x5_1).f1.f1) ((rd_T37 l0 x5_1).f1.f2) ((rd_T37 l0 x5_1).f1.f3) _ _ ((rd_T37 l0 x5_1).f1.f4) ((rd_T37 l0 x5_1).f1.f5) ((rd_T37 l0 x5_1).f2) ((rd_T37 l0 x5_1).f3) ((rd_T37 l1 x5_1).f0.f0) _ _ ((rd_T37 l1 x5_1).f0.f1) ((rd_T37 l1 x5_1).f0.f2) ((rd_T37 l1 x5_1).f1.f0) ((rd_T37 l1 x5_1).f1.f1) ((rd_T37 l1 x5_1).f1.f2) ((rd_T37 l1 x5_1).f1.f3) _ _ ((rd_T37 l1 x5_1).f1.f4) ((rd_T37 l1 x5_1).f1.f5) ((rd_T37 l1 x5_1).f2) ((rd_T37 l1 x5_1).f3) true _ ?side1 ?side2 ?side3 ?side4 ?side5 ?side6 ?side7 ?side8 A7.out).mono ?_
       (case side1 => exact (cZ (Kd.C_below HR101_1.out HB.out)))
       (case side2 => exact HC101_1.out)
       (case side3 => exact (cZ (Kd.C_below HR101_7.out HB.out)))
       (case side4 => exact HC101_7.out)
       (case side5 => exact (cZ (Kd.C_below HR102_1.out HB.out)))
       (case side6 => exact HC102_1.out)
       (case side7 => exact (cZ (Kd.C_below HR102_7.out HB.out)))
       (case side8 => exact HC102_7.out)
       rintro e w10 ⟨rfl, hb⟩
       refine ⟨_, rfl, ?_⟩
       have _ := aM (below_step hbZ hb)
       clear HB
       rename_i HB
       (try clear hb)
       refine hK.out _ _ sZ (fun hHeld => ?_)
       clear hK K
       refine nA 25 ?_; refine pA 9 26 HT_ ?_
       refine done_ (done_of HT_.out (by kernel_rfl)) ?_
       try go_wp2
       go_roundg k1
       case measure => have := HK1.out; omega
       case rel => exact ⟨(wrap64 (x5_1 + 1)), z4458, H', ⟨zfb39⟩, ⟨z5acd⟩⟩
     · replace c8 := Bool.eq_false_iff.mpr c8
       subst c8
       rw [if_neg (show ¬ (false = true) by decide)] at H
       exact absurd H (by simp)
   · rw [if_neg c4] at H
     have c4b0 := nL c4
     clear c4
     obtain rfl := Option.some.inj H
     go_wp2
     go_ret
     exact ⟨z674d, z5acd⟩
end Go.Proofs.YtkgmoajdcibafaaDoor.P

-- written by a program of this session's (wip/pp)
namespace Go.Proofs.YtkgmoajdcibafaaDoor.P
open Go.RowKit Go.Proofs.YtkgmoajdcibafaaDoorW.PrintWords Go.Proofs.YtkgmoajdcibafaaDoorW.PrintLast Go.Proofs.YtkgmoajdcibafaaDoorW.PrintMore
attribute [local go_sem] max2_int min2_int max_two min_two max_three min_three max_four min_four str_geq str_gtr str_leq   -- for this text's walks alone
set_option linter.unusedVariables false
set_option linter.unusedSimpArgs false

/-! ### laws_eqBoard: function 15 -/
def laws_eqBoard.f (k : Nat) (a0_0 : Int) (a0_1 : Int) (a0_2 : Int) (l0_3 : List (S37)) (a1_0 : Int) (a1_1 : Int) (a1_2 : Int) (l1_3 : List (S37)) : Option (Bool) := if a0_0 = a1_0 then (if a0_1 = a1_1 then (if a0_2 = a1_2 then ((laws_eqWinS.f k l0_3 l1_3).bind fun t103 => (if t103 = true then (some true) else (none))) else (none)) else (none)) else (none)
theorem laws_eqBoard.mono : ∀ a0 a1 a2 a3 a4 a5 a6 a7 k, LeO (laws_eqBoard.f k a0 a1 a2 a3 a4 a5 a6 a7) (laws_eqBoard.f (k + 1) a0 a1 a2 a3 a4 a5 a6 a7) := by
 intro a0 a1 a2 a3 a4 a5 a6 a7 k
 have m0 := @laws_eqWinS.mono
 unfold laws_eqBoard.f
 exact moZ
set_option maxHeartbeats 8000000 in
set_option maxRecDepth 100000 in
theorem laws_eqBoard.calls (k : Nat) (a0_0 : Int) (a0_1 : Int) (a0_2 : Int) (A0_3 : Option Addr) (c0_3 : Nat) (l0_3 : List (S37)) (a1_0 : Int) (a1_1 : Int) (a1_2 : Int) (A1_3 : Option Addr) (c1_3 : Nat) (l1_3 : List (S37)) (r : Bool) (w : World) (hr0_3 : Kd.C k37 w A0_3 l0_3.length l0_3) (hc0_3 : l0_3.length ≤ c0_3) (hr1_3 : Kd.C k37 w A1_3 l1_3.length l1_3) (hc1_3 : l1_3.length ≤ c1_3) (h : laws_eqBoard.f k a0_0 a0_1 a0_2 l0_3 a1_0 a1_1 a1_2 l1_3 = some r) :
 Calls Tryd.prog 15 #[.agg #[.int .i64 a0_0, .int .i64 a0_1, .int .i64 a0_2, .slice A0_3 l0_3.length c0_3], .agg #[.int .i64 a1_0, .int .i64 a1_1, .int .i64 a1_2, .slice A1_3 l1_3.length c1_3]] w fun e w' => e = .returned (.bool r) ∧ Below w.heap.size w w' := by
 have hu42 := Tryd.underlying42
 have HR0_3 := aM hr0_3
 have HC0_3 := aM hc0_3
 clear hr0_3 hc0_3
 have HR1_3 := aM hr1_3
 have HC1_3 := aM hc1_3
 clear hr1_3 hc1_3
 have HB := aM (Below.refl w.heap.size w)
 have H : (if a0_0 = a1_0 then (if a0_1 = a1_1 then (if a0_2 = a1_2 then ((laws_eqWinS.f k l0_3 l1_3).bind fun t103 => (if t103 = true then (some true) else (none))) else (none)) else (none)) else (none)) = some r := h
 clear h
 replace H := ifS H; obtain ⟨c3, H⟩ := H
 have c3b0 := eqE c3
 clear c3
 replace H := ifS H; obtain ⟨c4, H⟩ := H
 have c4b0 := eqE c4
 clear c4
 replace H := ifS H; obtain ⟨c5, H⟩ := H
 have c5b0 := eqE c5
 clear c5
 obtain ⟨t103, A6, H⟩ := bS H; try dsimp only at H
 by_cases c7 : t103 = true
 · subst c7
   rw [if_pos rfl] at H
   obtain rfl := Option.some.inj H
   go_enter Tryd.func15, Tryd.ntmps15
   go_wp2_with (first | ((with_reducible refine gate_dst (N := 2) rfl ?_); refine bX 2 42 #[.int .i64 a0_0, .int .i64 a0_1, .int .i64 a0_2, .slice A0_3 l0_3.length c0_3] ?_; intro gb101 hg w8 hbox hb; have _ := aM (below_step hbZ hb); have _ := aM hbox; have _ := szZ hg; have _ := szZ hg; clear HB; rename_i HB BK101 GW101 GE101; clear hb hbox hg) | ((with_reducible refine gate_dst (N := 3) rfl ?_); refine bX 3 42 #[.int .i64 a1_0, .int .i64 a1_1, .int .i64 a1_2, .slice A1_3 l1_3.length c1_3] ?_; intro gb102 hg w9 hbox hb; have _ := bB gb101 hb; have _ := aM (below_step hbZ hb); have _ := aM hbox; have _ := szZ hg; have _ := szZ hg; have ⟨_, _⟩ := nbB gb101 hg; clear BK101 HB; rename_i BK101 HB BK102 GW102 GE102 NB101_102 NB102_101; clear hb hbox hg; have hnb10 := NB101_102.out; have hnc10 := NB102_101.out; have hz11 := cellsZ4 BK101.out; have hz12 := cellsZ4 BK102.out) | ((with_reducible refine gate_callee (f := 51) rfl ?_); refine gL 24 Tryd.func51 #[.slice A0_3 l0_3.length c0_3, .slice A1_3 l1_3.length c1_3] ?_; (with_reducible refine (laws_eqWinS.calls k _ _ l0_3 _ _ l1_3 true _ ?side1 ?side2 ?side3 ?side4 A6.out).mono ?_); (case side1 => exact (cZ (Kd.C_below HR0_3.out HB.out))); (case side2 => exact HC0_3.out); (case side3 => exact (cZ (Kd.C_below HR1_3.out HB.out))); (case side4 => exact HC1_3.out); rintro e w13 ⟨rfl, hb⟩; refine ⟨_, rfl, ?_⟩; have _ := bB gb101 hb; have _ := bB gb102 hb; have _ := aM (below_step hbZ hb); clear BK101 BK102 HB; rename_i BK101 BK102 HB; (try clear hb)))
   go_ret
   exact ⟨z674d, zcb41⟩
 · replace c7 := Bool.eq_false_iff.mpr c7
   subst c7
   rw [if_neg (show ¬ (false = true) by decide)] at H
   exact absurd H (by simp)
end Go.Proofs.YtkgmoajdcibafaaDoor.P

-- written by a program of this session's (wip/pp)
namespace Go.Proofs.YtkgmoajdcibafaaDoor.P
open Go.RowKit Go.Proofs.YtkgmoajdcibafaaDoorW.PrintWords Go.Proofs.YtkgmoajdcibafaaDoorW.PrintLast Go.Proofs.YtkgmoajdcibafaaDoorW.PrintMore
attribute [local go_sem] max2_int min2_int max_two min_two max_three min_three max_four min_four str_geq str_gtr str_leq   -- for this text's walks alone
set_option linter.unusedVariables false
set_option linter.unusedSimpArgs false

/-! ### laws_markKey: function 18 -/
def laws_markKey.f (k : Nat) (a0_0 : ByteArray) (l0_1 : List (S123)) (a0_2 : Int) (a1 : Int) : Option (Int × (List (S123))) := (laws_markTagS.f k l0_1 a1).bind fun bt102 => (some (bt102.1, bt102.2))
theorem laws_markKey.mono : ∀ a0 a1 a2 a3 k, LeO (laws_markKey.f k a0 a1 a2 a3) (laws_markKey.f (k + 1) a0 a1 a2 a3) := by
 intro a0 a1 a2 a3 k
 have m0 := @laws_markTagS.mono
 unfold laws_markKey.f
 exact moZ
set_option maxHeartbeats 8000000 in
set_option maxRecDepth 100000 in
theorem laws_markKey.calls (k : Nat) (a0_0 : ByteArray) (P0_1_ : Nat → Prop) (u9000_ : Value) (l0_1 : List (S123)) (a0_2 : Int) (a1 : Int) (r1 : Int) (r2 : List (S123)) (w0 w : World) (hB : Below w0.heap.size w0 w) (ho0_1 : Kd.R k123 123 w w0.heap.size P0_1_ u9000_ l0_1) (h : laws_markKey.f k a0_0 l0_1 a0_2 a1 = some (r1, r2)) :
 Calls Tryd.prog 18 #[.agg #[.string a0_0, u9000_, .int .i64 a0_2], .int .i64 a1] w fun e w' => e = .returned (.int .i64 r1) ∧ Kd.R k123 123 w' w0.heap.size (fun k_ => (P0_1_ k_ ∨ w.heap.size ≤ k_)) u9000_ r2 ∧ Below w0.heap.size w0 w' ∧ Kept w w' (fun k_ => P0_1_ k_) := by
 have hu32 := Tryd.underlying32
 have HO0_1 := aM (show Kd.R k123 123 w w0.heap.size (fun k_ => (P0_1_ k_ ∨ w.heap.size ≤ k_)) u9000_ l0_1 from Kd.R_mono ho0_1 (fun k_ hk => (.inl hk)))
 have HK := aM (Kept.refl w (fun k_ => P0_1_ k_))
 have HW0 := aM hB.size
 have HB := aM hB
 clear hB
 have H : ((laws_markTagS.f k l0_1 a1).bind fun bt102 => (some (bt102.1, bt102.2))) = some (r1, r2) := h
 clear h
 obtain ⟨⟨t102, t103⟩, A3, H⟩ := bS H; try dsimp only at H
 simp only [Option.some.injEq, Prod.mk.injEq] at H
 obtain ⟨rfl, rfl⟩ := H
 obtain ⟨Ao4, co4, eo4⟩ := Kd.R_slice HO0_1.out
 subst eo4
 go_enter Tryd.func18, Tryd.ntmps18
 go_wp2_with (first | ((with_reducible refine gate_dst (N := 2) rfl ?_); refine bX 2 32 #[.string a0_0, .slice Ao4 l0_1.length co4, .int .i64 a0_2] ?_; intro gb101 hg w5 hbox hb; have _ := aM (Kd.R_below (rZ HO0_1.out) hb); have _ := aM (Kept.below (S := (fun k_ => P0_1_ k_)) z7d56 hb); have _ := aM (below_step hbZ hb); have _ := aM hbox; have _ := aM ((by rw [hg]; exact (by first | exact HK.out.1 | exact (show Kept w _ (fun k_ => P0_1_ k_) from by repeat (first | (with_reducible first | exact HK.out | apply Kept.alloc | apply Kept.drewN | apply Kept.drew) | exact HK.out)).1) : w.heap.size ≤ gb101)); have _ := szZ hg; clear HO0_1 HK HB; rename_i HO0_1 HK HB BK101 GW101 GE101; clear hb hbox hg; have hz6 := cellsZ3 BK101.out) | ((with_reducible refine gate_callee (f := 54) rfl ?_); refine gL 8 Tryd.func54 #[.slice Ao4 l0_1.length co4, .int .i64 a1] ?_; (with_reducible refine (laws_markTagS.calls k (fun k_ => some k_ = (.slice Ao4 l0_1.length co4 : Value).ownBlock) (.slice Ao4 l0_1.length co4) l0_1 a1 t102 t103 w0 _ ?side1 ?side2 A3.out).mono ?_); (case side1 => exact zcb41); (case side2 => exact Kd.R_tight rfl HO0_1.out); rintro e w7 ⟨rfl, hy0, hb, hkp⟩; refine ⟨_, rfl, ?_⟩; have _ := aM (Kd.R_reok rfl hy0 (fun k_ e_ => HO0_1.out.1 k_ e_)); have _ := aM (blk_kept bkZ hkp (fun hs_ => (fun e_ => (Kd.R_ne HO0_1.out BK101.out (by decide)) e_) hs_)); have _ := aM (Kept.then_ (S := (fun k_ => P0_1_ k_)) za500 hkp (fun k_ hs_ => (fun e_ => (HO0_1.out.1 k_ e_.symm)) hs_)); have _ := aM hb; clear HO0_1 BK101 HK HB; rename_i HO0_1 BK101 HK HB; (try clear hb); (try clear hkp); (try clear hy0)))
 go_ret
 exact ⟨z674d, rZ HO0_1.out, zcb41, za500⟩

end Go.Proofs.YtkgmoajdcibafaaDoor.P

-- written by a program of this session's (wip/pp)
namespace Go.Proofs.YtkgmoajdcibafaaDoor.P
open Go.RowKit Go.Proofs.YtkgmoajdcibafaaDoorW.PrintWords Go.Proofs.YtkgmoajdcibafaaDoorW.PrintLast Go.Proofs.YtkgmoajdcibafaaDoorW.PrintMore
attribute [local go_sem] max2_int min2_int max_two min_two max_three min_three max_four min_four str_geq str_gtr str_leq   -- for this text's walks alone
set_option linter.unusedVariables false
set_option linter.unusedSimpArgs false

/-! ### laws_markAgg: function 55 -/
def laws_markAgg.f (k : Nat) (a0_0 : Int) (a0_1 : Int) (a0_2 : Int) (a0_3 : Int) (l0_4 : List Int) (a0_5 : Bool) (a1 : Int) : Option (Int × List Int) := (laws_markIntS.f k l0_4 a1).bind fun bt102 => (some (bt102.1, bt102.2))
theorem laws_markAgg.mono : ∀ a0 a1 a2 a3 a4 a5 a6 k, LeO (laws_markAgg.f k a0 a1 a2 a3 a4 a5 a6) (laws_markAgg.f (k + 1) a0 a1 a2 a3 a4 a5 a6) := by
 intro a0 a1 a2 a3 a4 a5 a6 k
 have m0 := @laws_markIntS.mono
 unfold laws_markAgg.f
 exact moZ
set_option maxHeartbeats 8000000 in
set_option maxRecDepth 100000 in
theorem laws_markAgg.calls (k : Nat) (a0_0 : Int) (a0_1 : Int) (a0_2 : Int) (a0_3 : Int) (P0_4_ : Nat → Prop) (u9000_ : Value) (l0_4 : List Int) (a0_5 : Bool) (a1 : Int) (r1 : Int) (r2 : List Int) (w0 w : World) (hB : Below w0.heap.size w0 w) (ho0_4 : Kd.R (Kd.int .i64) 3 w w0.heap.size P0_4_ u9000_ l0_4) (h : laws_markAgg.f k a0_0 a0_1 a0_2 a0_3 l0_4 a0_5 a1 = some (r1, r2)) :
 Calls Tryd.prog 55 #[.agg #[.int .i64 a0_0, .int .i64 a0_1, .int .i64 a0_2, .int .i64 a0_3, u9000_, .bool a0_5], .int .i64 a1] w fun e w' => e = .returned (.int .i64 r1) ∧ Kd.R (Kd.int .i64) 3 w' w0.heap.size (fun k_ => (P0_4_ k_ ∨ w.heap.size ≤ k_)) u9000_ r2 ∧ Below w0.heap.size w0 w' ∧ Kept w w' (fun k_ => P0_4_ k_) := by
 have hu35 := Tryd.underlying35
 have HO0_4 := aM (show Kd.R (Kd.int .i64) 3 w w0.heap.size (fun k_ => (P0_4_ k_ ∨ w.heap.size ≤ k_)) u9000_ l0_4 from Kd.R_mono ho0_4 (fun k_ hk => (.inl hk)))
 have HK := aM (Kept.refl w (fun k_ => P0_4_ k_))
 have HW0 := aM hB.size
 have HB := aM hB
 clear hB
 have H : ((laws_markIntS.f k l0_4 a1).bind fun bt102 => (some (bt102.1, bt102.2))) = some (r1, r2) := h
 clear h
 obtain ⟨⟨t102, t103⟩, A3, H⟩ := bS H; try dsimp only at H
 simp only [Option.some.injEq, Prod.mk.injEq] at H
 obtain ⟨rfl, rfl⟩ := H
 obtain ⟨Ao4, co4, eo4⟩ := Kd.R_slice HO0_4.out
 subst eo4
 go_enter Tryd.func55, Tryd.ntmps55
 go_wp2_with (first | ((with_reducible refine gate_dst (N := 2) rfl ?_); refine bX 2 35 #[.int .i64 a0_0, .int .i64 a0_1, .int .i64 a0_2, .int .i64 a0_3, .slice Ao4 l0_4.length co4, .bool a0_5] ?_; intro gb101 hg w5 hbox hb; have _ := aM (Kd.R_below (rZ HO0_4.out) hb); have _ := aM (Kept.below (S := (fun k_ => P0_4_ k_)) z7d56 hb); have _ := aM (below_step hbZ hb); have _ := aM hbox; have _ := aM ((by rw [hg]; exact (by first | exact HK.out.1 | exact (show Kept w _ (fun k_ => P0_4_ k_) from by repeat (first | (with_reducible first | exact HK.out | apply Kept.alloc | apply Kept.drewN | apply Kept.drew) | exact HK.out)).1) : w.heap.size ≤ gb101)); have _ := szZ hg; clear HO0_4 HK HB; rename_i HO0_4 HK HB BK101 GW101 GE101; clear hb hbox hg; have hz6 := cellsZ6 BK101.out) | ((with_reducible refine gate_callee (f := 76) rfl ?_); refine gL 8 Tryd.func76 #[.slice Ao4 l0_4.length co4, .int .i64 a1] ?_; (with_reducible refine (laws_markIntS.calls k (fun k_ => some k_ = (.slice Ao4 l0_4.length co4 : Value).ownBlock) (.slice Ao4 l0_4.length co4) l0_4 a1 t102 t103 w0 _ ?side1 ?side2 A3.out).mono ?_); (case side1 => exact zcb41); (case side2 => exact Kd.R_tight rfl HO0_4.out); rintro e w7 ⟨rfl, hy0, hb, hkp⟩; refine ⟨_, rfl, ?_⟩; have _ := aM (Kd.R_reok rfl hy0 (fun k_ e_ => HO0_4.out.1 k_ e_)); have _ := aM (blk_kept bkZ hkp (fun hs_ => (fun e_ => (Kd.R_ne HO0_4.out BK101.out (by decide)) e_) hs_)); have _ := aM (Kept.then_ (S := (fun k_ => P0_4_ k_)) za500 hkp (fun k_ hs_ => (fun e_ => (HO0_4.out.1 k_ e_.symm)) hs_)); have _ := aM hb; clear HO0_4 BK101 HK HB; rename_i HO0_4 BK101 HK HB; (try clear hb); (try clear hkp); (try clear hy0)))
 go_ret
 exact ⟨z674d, rZ HO0_4.out, zcb41, za500⟩

end Go.Proofs.YtkgmoajdcibafaaDoor.P

-- written by a program of this session's (wip/pp)
namespace Go.Proofs.YtkgmoajdcibafaaDoor.P
open Go.RowKit Go.Proofs.YtkgmoajdcibafaaDoorW.PrintWords Go.Proofs.YtkgmoajdcibafaaDoorW.PrintLast Go.Proofs.YtkgmoajdcibafaaDoorW.PrintMore
attribute [local go_sem] max2_int min2_int max_two min_two max_three min_three max_four min_four str_geq str_gtr str_leq   -- for this text's walks alone
set_option linter.unusedVariables false
set_option linter.unusedSimpArgs false

/-! ### laws_markWin: function 19 -/
def laws_markWin.f (k : Nat) (a0_0 : ByteArray) (l0_1 : List (S123)) (a0_2 : Int) (a0_3 : Int) (a0_4 : Int) (a0_5 : Int) (a0_6 : Int) (l0_7 : List Int) (a0_8 : Bool) (a0_9 : Int) (a0_10 : Bool) (a1 : Int) : Option (Int × (List (S123)) × List Int) := (laws_markKey.f k a0_0 l0_1 a0_2 a1).bind fun bt102 => ((laws_markAgg.f k a0_3 a0_4 a0_5 a0_6 l0_7 a0_8 bt102.1).bind fun bt104 => (some (bt104.1, bt102.2, bt104.2)))
theorem laws_markWin.mono : ∀ a0 a1 a2 a3 a4 a5 a6 a7 a8 a9 a10 a11 k, LeO (laws_markWin.f k a0 a1 a2 a3 a4 a5 a6 a7 a8 a9 a10 a11) (laws_markWin.f (k + 1) a0 a1 a2 a3 a4 a5 a6 a7 a8 a9 a10 a11) := by
 intro a0 a1 a2 a3 a4 a5 a6 a7 a8 a9 a10 a11 k
 have m0 := @laws_markAgg.mono; have m1 := @laws_markKey.mono
 unfold laws_markWin.f
 exact moZ
set_option maxHeartbeats 8000000 in
set_option maxRecDepth 100000 in
theorem laws_markWin.calls (k : Nat) (a0_0 : ByteArray) (P0_1_ : Nat → Prop) (u9000_ : Value) (l0_1 : List (S123)) (a0_2 : Int) (a0_3 : Int) (a0_4 : Int) (a0_5 : Int) (a0_6 : Int) (P0_7_ : Nat → Prop) (u9001_ : Value) (l0_7 : List Int) (a0_8 : Bool) (a0_9 : Int) (a0_10 : Bool) (a1 : Int) (r1 : Int) (r2 : List (S123)) (r3 : List Int) (w0 w : World) (hB : Below w0.heap.size w0 w) (ho0_1 : Kd.R k123 123 w w0.heap.size P0_1_ u9000_ l0_1) (ho0_7 : Kd.R (Kd.int .i64) 3 w w0.heap.size P0_7_ u9001_ l0_7) (h : laws_markWin.f k a0_0 l0_1 a0_2 a0_3 a0_4 a0_5 a0_6 l0_7 a0_8 a0_9 a0_10 a1 = some (r1, r2, r3)) :
 Calls Tryd.prog 19 #[.agg #[.string a0_0, u9000_, .int .i64 a0_2, .int .i64 a0_3, .int .i64 a0_4, .int .i64 a0_5, .int .i64 a0_6, u9001_, .bool a0_8, .int .i64 a0_9, .bool a0_10], .int .i64 a1] w fun e w' => e = .returned (.int .i64 r1) ∧ Kd.R k123 123 w' w0.heap.size (fun k_ => ((P0_1_ k_ ∨ P0_7_ k_) ∨ w.heap.size ≤ k_)) u9000_ r2 ∧ Kd.R (Kd.int .i64) 3 w' w0.heap.size (fun k_ => ((P0_1_ k_ ∨ P0_7_ k_) ∨ w.heap.size ≤ k_)) u9001_ r3 ∧ Below w0.heap.size w0 w' ∧ Kept w w' (fun k_ => P0_1_ k_ ∨ P0_7_ k_) := by
 have hu37 := Tryd.underlying37
 have hu32 := Tryd.underlying32
 have hu35 := Tryd.underlying35
 have HO0_1 := aM (show Kd.R k123 123 w w0.heap.size (fun k_ => ((P0_1_ k_ ∨ P0_7_ k_) ∨ w.heap.size ≤ k_)) u9000_ l0_1 from Kd.R_mono ho0_1 (fun k_ hk => (.inl (.inl hk))))
 have HO0_7 := aM (show Kd.R (Kd.int .i64) 3 w w0.heap.size (fun k_ => ((P0_1_ k_ ∨ P0_7_ k_) ∨ w.heap.size ≤ k_)) u9001_ l0_7 from Kd.R_mono ho0_7 (fun k_ hk => (.inl (.inr hk))))
 have HK := aM (Kept.refl w (fun k_ => P0_1_ k_ ∨ P0_7_ k_))
 have HW0 := aM hB.size
 have HB := aM hB
 clear hB
 have H : ((laws_markKey.f k a0_0 l0_1 a0_2 a1).bind fun bt102 => ((laws_markAgg.f k a0_3 a0_4 a0_5 a0_6 l0_7 a0_8 bt102.1).bind fun bt104 => (some (bt104.1, bt102.2, bt104.2)))) = some (r1, r2, r3) := h
 clear h
 obtain ⟨⟨t102, t103⟩, A3, H⟩ := bS H; try dsimp only at H
 obtain ⟨⟨t104, t105⟩, A4, H⟩ := bS H; try dsimp only at H
 simp only [Option.some.injEq, Prod.mk.injEq] at H
 obtain ⟨rfl, rfl, rfl⟩ := H
 obtain ⟨Ao5, co5, eo5⟩ := Kd.R_slice HO0_1.out
 subst eo5
 obtain ⟨Ao6, co6, eo6⟩ := Kd.R_slice HO0_7.out
 subst eo6
 go_enter Tryd.func19, Tryd.ntmps19
 go_wp2_with (first | ((with_reducible refine gate_dst (N := 2) rfl ?_); refine bX 2 37 #[.string a0_0, .slice Ao5 l0_1.length co5, .int .i64 a0_2, .int .i64 a0_3, .int .i64 a0_4, .int .i64 a0_5, .int .i64 a0_6, .slice Ao6 l0_7.length co6, .bool a0_8, .int .i64 a0_9, .bool a0_10] ?_; intro gb101 hg w7 hbox hb; have _ := aM (Kd.R_below (rZ HO0_1.out) hb); have _ := aM (Kd.R_below (rZ HO0_7.out) hb); have _ := aM (Kept.below (S := (fun k_ => P0_1_ k_ ∨ P0_7_ k_)) z7d56 hb); have _ := aM (below_step hbZ hb); have _ := aM hbox; have _ := aM ((by rw [hg]; exact (by first | exact HK.out.1 | exact (show Kept w _ (fun k_ => P0_1_ k_ ∨ P0_7_ k_) from by repeat (first | (with_reducible first | exact HK.out | apply Kept.alloc | apply Kept.drewN | apply Kept.drew) | exact HK.out)).1) : w.heap.size ≤ gb101)); have _ := szZ hg; clear HO0_1 HO0_7 HK HB; rename_i HO0_1 HO0_7 HK HB BK101 GW101 GE101; clear hb hbox hg; have hz8 := cellsZ11 BK101.out) | ((with_reducible refine gate_callee (f := 18) rfl ?_); refine gL 8 Tryd.func18 #[.agg #[.string a0_0, .slice Ao5 l0_1.length co5, .int .i64 a0_2], .int .i64 a1] ?_; (with_reducible refine (laws_markKey.calls k a0_0 (fun k_ => some k_ = (.slice Ao5 l0_1.length co5 : Value).ownBlock) (.slice Ao5 l0_1.length co5) l0_1 a0_2 a1 t102 t103 w0 _ ?side1 ?side2 A3.out).mono ?_); (case side1 => exact zcb41); (case side2 => exact Kd.R_tight rfl HO0_1.out); rintro e w9 ⟨rfl, hy0, hb, hkp⟩; refine ⟨_, rfl, ?_⟩; have _ := aM (Kd.R_reok rfl hy0 (fun k_ e_ => HO0_1.out.1 k_ e_)); have _ := aM (Kd.R_mono (ok' := fun k_ => ((P0_1_ k_ ∨ P0_7_ k_) ∨ w.heap.size ≤ k_)) (Kd.R_keptB ((Kd.R_apart' HO0_7.out (Kd.R_typed HO0_1.out) (by decide))) hkp (fun k_ hk_ hs_ => (hk_.2) hs_)) (fun k_ hk_ => hk_.1.1)); have _ := aM (blk_kept bkZ hkp (fun hs_ => (fun e_ => (Kd.R_ne HO0_1.out BK101.out (by decide)) e_) hs_)); have _ := aM (Kept.then_ (S := (fun k_ => P0_1_ k_ ∨ P0_7_ k_)) za500 hkp (fun k_ hs_ => (fun e_ => (HO0_1.out.1 k_ e_.symm)) hs_)); have _ := aM hb; clear HO0_1 HO0_7 BK101 HK HB; rename_i HO0_1 HO0_7 BK101 HK HB; (try clear hb); (try clear hkp); (try clear hy0); have hz10 := cellsZ11 BK101.out) | ((with_reducible refine gate_callee (f := 55) rfl ?_); refine gL 12 Tryd.func55 #[.agg #[.int .i64 a0_3, .int .i64 a0_4, .int .i64 a0_5, .int .i64 a0_6, .slice Ao6 l0_7.length co6, .bool a0_8], .int .i64 t102] ?_; (with_reducible refine (laws_markAgg.calls k a0_3 a0_4 a0_5 a0_6 (fun k_ => some k_ = (.slice Ao6 l0_7.length co6 : Value).ownBlock) (.slice Ao6 l0_7.length co6) l0_7 a0_8 t102 t104 t105 w0 _ ?side1 ?side2 A4.out).mono ?_); (case side1 => exact zcb41); (case side2 => exact Kd.R_tight rfl HO0_7.out); rintro e w11 ⟨rfl, hy0, hb, hkp⟩; refine ⟨_, rfl, ?_⟩; have _ := aM (Kd.R_mono (ok' := fun k_ => ((P0_1_ k_ ∨ P0_7_ k_) ∨ w.heap.size ≤ k_)) (Kd.R_keptB ((Kd.R_apart' HO0_1.out (Kd.R_typed HO0_7.out) (by decide))) hkp (fun k_ hk_ hs_ => (hk_.2) hs_)) (fun k_ hk_ => hk_.1.1)); have _ := aM (Kd.R_reok rfl hy0 (fun k_ e_ => HO0_7.out.1 k_ e_)); have _ := aM (blk_kept bkZ hkp (fun hs_ => (fun e_ => (Kd.R_ne HO0_7.out BK101.out (by decide)) e_) hs_)); have _ := aM (Kept.then_ (S := (fun k_ => P0_1_ k_ ∨ P0_7_ k_)) za500 hkp (fun k_ hs_ => (fun e_ => (HO0_7.out.1 k_ e_.symm)) hs_)); have _ := aM hb; clear HO0_1 HO0_7 BK101 HK HB; rename_i HO0_1 HO0_7 BK101 HK HB; (try clear hb); (try clear hkp); (try clear hy0)))
 go_ret
 exact ⟨z674d, rZ HO0_1.out, rZ HO0_7.out, zcb41, za500⟩

end Go.Proofs.YtkgmoajdcibafaaDoor.P
