/- Part 4 of the walks and words that FE uses. No conditions of its own. -/
import Derived.Test.YtdkokfnnebdppaaMFE3
set_option maxHeartbeats 8000000
set_option maxRecDepth 100000
namespace Go.Proofs.Ytdkokfnnebdppaa.P
open Go.RowKit Go.Proofs.YtdkokfnnebdppaaW.PrintWords Go.Proofs.YtdkokfnnebdppaaW.PrintLast Go.Proofs.YtdkokfnnebdppaaW.PrintMore
attribute [local go_sem] max2_int min2_int max_two min_two max_three min_three max_four min_four str_geq str_gtr str_leq
set_option linter.unusedVariables false
set_option linter.unusedSimpArgs false
def impl_Entry_with_impl_PutEntry_1_10048049.f (k : Nat) (l0 : List (S45)) (a1_0 : ByteArray) (a1_1 : Int) (a1_2 : Int) (a1_3 : Int) (a1_4 : Int) (a1_5 : Int) (a1_6 : Int) (l1_7 : List Int) (a1_8 : Bool) : Option (Bool) := (impl_Entry_with_impl_PutEntry_1_10069049.f k l0 a1_0 a1_1 a1_2 a1_3 a1_4 a1_5 a1_6 l1_7 a1_8).bind fun t101 => (some (decide (t101 ≥ 0)))
theorem impl_Entry_with_impl_PutEntry_1_10048049.mono : ∀ a0 a1 a2 a3 a4 a5 a6 a7 a8 a9 k, LeO (impl_Entry_with_impl_PutEntry_1_10048049.f k a0 a1 a2 a3 a4 a5 a6 a7 a8 a9) (impl_Entry_with_impl_PutEntry_1_10048049.f (k + 1) a0 a1 a2 a3 a4 a5 a6 a7 a8 a9) := by
 intro a0 a1 a2 a3 a4 a5 a6 a7 a8 a9 k
 have m0 := @impl_Entry_with_impl_PutEntry_1_10069049.mono
 unfold impl_Entry_with_impl_PutEntry_1_10048049.f
 exact moZ
theorem impl_Entry_with_impl_PutEntry_1_10048049.calls (k : Nat) (A0 : Option Addr) (c0 : Nat) (l0 : List (S45)) (g1_ : Nat) (a1_0 : ByteArray) (a1_1 : Int) (a1_2 : Int) (a1_3 : Int) (a1_4 : Int) (a1_5 : Int) (a1_6 : Int) (A1_7 : Option Addr) (c1_7 : Nat) (l1_7 : List Int) (a1_8 : Bool) (r : Bool) (w : World) (hr0 : Kd.C k45 w A0 l0.length l0) (hc0 : l0.length ≤ c0) (hb1_ : w.heap[g1_]? = some (.cells #[.string a1_0, .int .i64 a1_1, .int .i64 a1_2, .int .i64 a1_3, .int .i64 a1_4, .int .i64 a1_5, .int .i64 a1_6, .slice A1_7 l1_7.length c1_7, .bool a1_8] 45 (0, 0))) (hr1_7 : Kd.C (Kd.int .i64) w A1_7 l1_7.length l1_7) (hc1_7 : l1_7.length ≤ c1_7) (h : impl_Entry_with_impl_PutEntry_1_10048049.f k l0 a1_0 a1_1 a1_2 a1_3 a1_4 a1_5 a1_6 l1_7 a1_8 = some r) :
 Calls Try.prog 48 #[.slice A0 l0.length c0, .func (.func 49) #[] #[.pointer (some ⟨g1_, 0, none⟩)]] w fun e w' => e = .returned (.bool r) ∧ Below w.heap.size w w' := by
 have HR0 := aM hr0
 have HC0 := aM hc0
 clear hr0 hc0
 have HR1_7 := aM hr1_7
 have HC1_7 := aM hc1_7
 clear hr1_7 hc1_7
 have BK1 := aM hb1_
 clear hb1_
 have HB := aM (Below.refl w.heap.size w)
 have H : ((impl_Entry_with_impl_PutEntry_1_10069049.f k l0 a1_0 a1_1 a1_2 a1_3 a1_4 a1_5 a1_6 l1_7 a1_8).bind fun t101 => (some (decide (t101 ≥ 0)))) = some r := h
 clear h
 obtain ⟨t101, A3, H⟩ := bS H; try dsimp only at H
 obtain rfl := Option.some.inj H
 go_enter Try.func48, Try.ntmps48
 go_wp2_with (first | ((with_reducible refine gate_callee (f := 69) rfl ?_); refine gL 7 Try.func69 #[.slice A0 l0.length c0, .func (.func 49) #[] #[.pointer (some ⟨g1_, 0, none⟩)]] ?_; (with_reducible refine (impl_Entry_with_impl_PutEntry_1_10069049.calls k _ _ l0 g1_ a1_0 a1_1 a1_2 a1_3 a1_4 a1_5 a1_6 A1_7 c1_7 l1_7 a1_8 t101 _ ?side1 ?side2 ?side3 ?side4 ?side5 A3.out).mono ?_); (case side1 => exact z4195); (case side2 => exact HC0.out); (case side3 => exact bkZ); (case side4 => exact (by repeat (first | exact HR1_7.out | (with_reducible refine Kd.C_alloc ?_ _) | (with_reducible refine Kd.C_drewN ?_ _) | (with_reducible refine Kd.C_drew ?_)))); (case side5 => exact HC1_7.out); rintro e w4 ⟨rfl, hb⟩; refine ⟨_, rfl, ?_⟩; have _ := bB g1_ hb; have _ := aM (below_step hbZ hb); clear BK1 HB; rename_i BK1 HB; (try clear hb)))
 go_ret
 exact ⟨z674d, zcb41⟩
def impl_PutEntry.f (k : Nat) (l0 : List (S45)) (a1_0 : ByteArray) (a1_1 : Int) (a1_2 : Int) (a1_3 : Int) (a1_4 : Int) (a1_5 : Int) (a1_6 : Int) (l1_7 : List Int) (a1_8 : Bool) : Option ((List (S45)) × Bool) := if (l0.length : Int) ≥ 60 then (some (([] : List (S45)), false)) else ((impl_GoodEntries.f k l0).bind fun t102 => (if t102 = true then ((impl_GoodEntry.f k a1_0 a1_1 a1_2 a1_3 a1_4 a1_5 a1_6 l1_7 a1_8).bind fun t103 => (if t103 = true then ((impl_Entry_with_impl_PutEntry_1_10048049.f k l0 a1_0 a1_1 a1_2 a1_3 a1_4 a1_5 a1_6 l1_7 a1_8).bind fun t104 => (if t104 = true then (some (([] : List (S45)), false)) else ((impl_withEntry.f k l0 a1_0 a1_1 a1_2 a1_3 a1_4 a1_5 a1_6 l1_7 a1_8).bind fun t105 => (some (t105, true))))) else (some (([] : List (S45)), false)))) else (some (([] : List (S45)), false))))
theorem impl_PutEntry.mono : ∀ a0 a1 a2 a3 a4 a5 a6 a7 a8 a9 k, LeO (impl_PutEntry.f k a0 a1 a2 a3 a4 a5 a6 a7 a8 a9) (impl_PutEntry.f (k + 1) a0 a1 a2 a3 a4 a5 a6 a7 a8 a9) := by
 intro a0 a1 a2 a3 a4 a5 a6 a7 a8 a9 k
 have m0 := @impl_Entry_with_impl_PutEntry_1_10048049.mono; have m1 := @impl_GoodEntries.mono; have m2 := @impl_GoodEntry.mono; have m3 := @impl_withEntry.mono
 unfold impl_PutEntry.f
 exact moZ
theorem impl_PutEntry.calls (k : Nat) (A0 : Option Addr) (c0 : Nat) (l0 : List (S45)) (a1_0 : ByteArray) (a1_1 : Int) (a1_2 : Int) (a1_3 : Int) (a1_4 : Int) (a1_5 : Int) (a1_6 : Int) (A1_7 : Option Addr) (c1_7 : Nat) (l1_7 : List Int) (a1_8 : Bool) (r1 : List (S45)) (r2 : Bool) (w : World) (hr0 : Kd.C k45 w A0 l0.length l0) (hc0 : l0.length ≤ c0) (hr1_7 : Kd.C (Kd.int .i64) w A1_7 l1_7.length l1_7) (hc1_7 : l1_7.length ≤ c1_7) (h : impl_PutEntry.f k l0 a1_0 a1_1 a1_2 a1_3 a1_4 a1_5 a1_6 l1_7 a1_8 = some (r1, r2)) :
 Calls Try.prog 22 #[.slice A0 l0.length c0, .agg #[.string a1_0, .int .i64 a1_1, .int .i64 a1_2, .int .i64 a1_3, .int .i64 a1_4, .int .i64 a1_5, .int .i64 a1_6, .slice A1_7 l1_7.length c1_7, .bool a1_8]] w fun e w' => ∃ v0_ : Value, e = .returned (.tuple #[v0_, .bool r2]) ∧ Kd.S k45 45 w' w.heap.size (fun _ => True) v0_ r1 ∧ Below w.heap.size w w' := by
 have hu45 := Try.underlying45
 have HR0 := aM hr0
 have HC0 := aM hc0
 clear hr0 hc0
 have HR1_7 := aM hr1_7
 have HC1_7 := aM hc1_7
 clear hr1_7 hc1_7
 have HB := aM (Below.refl w.heap.size w)
 have H : (if (l0.length : Int) ≥ 60 then (some (([] : List (S45)), false)) else ((impl_GoodEntries.f k l0).bind fun t102 => (if t102 = true then ((impl_GoodEntry.f k a1_0 a1_1 a1_2 a1_3 a1_4 a1_5 a1_6 l1_7 a1_8).bind fun t103 => (if t103 = true then ((impl_Entry_with_impl_PutEntry_1_10048049.f k l0 a1_0 a1_1 a1_2 a1_3 a1_4 a1_5 a1_6 l1_7 a1_8).bind fun t104 => (if t104 = true then (some (([] : List (S45)), false)) else ((impl_withEntry.f k l0 a1_0 a1_1 a1_2 a1_3 a1_4 a1_5 a1_6 l1_7 a1_8).bind fun t105 => (some (t105, true))))) else (some (([] : List (S45)), false)))) else (some (([] : List (S45)), false))))) = some (r1, r2) := h
 clear h
 by_cases c3 : (l0.length : Int) ≥ 60
 · rw [if_pos c3] at H
   have c3b0 : decide (60 ≤ (l0.length : Int)) = true := decide_eq_true c3
   have c3b1 : decide (60 ≤ l0.length) = true := decide_eq_true (by omega)
   clear c3
   simp only [Option.some.injEq, Prod.mk.injEq] at H
   obtain ⟨rfl, rfl⟩ := H
   go_enter Try.func22, Try.ntmps22
   go_wp2_with (first | ((with_reducible refine gate_dst (N := 3) rfl ?_); refine bX 3 45 #[.string a1_0, .int .i64 a1_1, .int .i64 a1_2, .int .i64 a1_3, .int .i64 a1_4, .int .i64 a1_5, .int .i64 a1_6, .slice A1_7 l1_7.length c1_7, .bool a1_8] ?_; intro gb101 hg w4 hbox hb; have _ := aM (below_step hbZ hb); have _ := aM hbox; have _ := szZ hg; have _ := szZ hg; clear HB; rename_i HB BK101 GW101 GE101; clear hb hbox hg))
   go_ret2
   exact ⟨_, z674d, z2bfb, zcb41⟩
 · rw [if_neg c3] at H
   have c3b0 : decide (60 ≤ (l0.length : Int)) = false := decide_eq_false c3
   have c3b1 : decide (60 ≤ l0.length) = false := decide_eq_false (by omega)
   clear c3
   obtain ⟨t102, A5, H⟩ := bS H; try dsimp only at H
   by_cases c6 : t102 = true
   · subst c6
     rw [if_pos rfl] at H
     obtain ⟨t103, A7, H⟩ := bS H; try dsimp only at H
     by_cases c8 : t103 = true
     · subst c8
       rw [if_pos rfl] at H
       obtain ⟨t104, A9, H⟩ := bS H; try dsimp only at H
       by_cases c10 : t104 = true
       · subst c10
         rw [if_pos rfl] at H
         simp only [Option.some.injEq, Prod.mk.injEq] at H
         obtain ⟨rfl, rfl⟩ := H
         go_enter Try.func22, Try.ntmps22
         go_wp2_with (first | ((with_reducible refine gate_dst (N := 3) rfl ?_); refine bX 3 45 #[.string a1_0, .int .i64 a1_1, .int .i64 a1_2, .int .i64 a1_3, .int .i64 a1_4, .int .i64 a1_5, .int .i64 a1_6, .slice A1_7 l1_7.length c1_7, .bool a1_8] ?_; intro gb101 hg w11 hbox hb; have _ := aM (below_step hbZ hb); have _ := aM hbox; have _ := szZ hg; have _ := szZ hg; clear HB; rename_i HB BK101 GW101 GE101; clear hb hbox hg) | (go_at_call 28; (with_reducible refine (impl_GoodEntries.calls k _ _ l0 true _ ?side1 ?side2 A5.out).mono ?_); (case side1 => exact (cZ (Kd.C_below HR0.out HB.out))); (case side2 => exact HC0.out); rintro e w12 ⟨rfl, hb⟩; have _ := bB gb101 hb; have _ := aM (below_step hbZ hb); clear BK101 HB; rename_i BK101 HB; (try clear hb); have hz13 := cellsZ9 BK101.out) | (go_at_call 47; (with_reducible refine (impl_GoodEntry.calls k a1_0 a1_1 a1_2 a1_3 a1_4 a1_5 a1_6 _ _ l1_7 a1_8 true _ ?side1 ?side2 A7.out).mono ?_); (case side1 => exact (cZ (Kd.C_below HR1_7.out HB.out))); (case side2 => exact HC1_7.out); rintro e w14 ⟨rfl, hb⟩; have _ := bB gb101 hb; have _ := aM (below_step hbZ hb); clear BK101 HB; rename_i BK101 HB; (try clear hb)) | (go_at_call 48; (with_reducible refine (impl_Entry_with_impl_PutEntry_1_10048049.calls k _ _ l0 gb101 a1_0 a1_1 a1_2 a1_3 a1_4 a1_5 a1_6 A1_7 c1_7 l1_7 a1_8 true _ ?side1 ?side2 ?side3 ?side4 ?side5 A9.out).mono ?_); (case side1 => exact (cZ (Kd.C_below HR0.out HB.out))); (case side2 => exact HC0.out); (case side3 => exact bkZ); (case side4 => exact (cZ (Kd.C_below HR1_7.out HB.out))); (case side5 => exact HC1_7.out); rintro e w15 ⟨rfl, hb⟩; have _ := bB gb101 hb; have _ := aM (below_step hbZ hb); clear BK101 HB; rename_i BK101 HB; (try clear hb)))
         go_ret2
         exact ⟨_, z674d, z2bfb, zcb41⟩
       · replace c10 := Bool.eq_false_iff.mpr c10
         subst c10
         rw [if_neg (show ¬ (false = true) by decide)] at H
         obtain ⟨t105, A16, H⟩ := bS H; try dsimp only at H
         simp only [Option.some.injEq, Prod.mk.injEq] at H
         obtain ⟨rfl, rfl⟩ := H
         go_enter Try.func22, Try.ntmps22
         go_wp2_with (first | ((with_reducible refine gate_dst (N := 3) rfl ?_); refine bX 3 45 #[.string a1_0, .int .i64 a1_1, .int .i64 a1_2, .int .i64 a1_3, .int .i64 a1_4, .int .i64 a1_5, .int .i64 a1_6, .slice A1_7 l1_7.length c1_7, .bool a1_8] ?_; intro gb101 hg w17 hbox hb; have _ := aM (below_step hbZ hb); have _ := aM hbox; have _ := szZ hg; have _ := szZ hg; clear HB; rename_i HB BK101 GW101 GE101; clear hb hbox hg) | (go_at_call 28; (with_reducible refine (impl_GoodEntries.calls k _ _ l0 true _ ?side1 ?side2 A5.out).mono ?_); (case side1 => exact (cZ (Kd.C_below HR0.out HB.out))); (case side2 => exact HC0.out); rintro e w18 ⟨rfl, hb⟩; have _ := bB gb101 hb; have _ := aM (below_step hbZ hb); clear BK101 HB; rename_i BK101 HB; (try clear hb); have hz19 := cellsZ9 BK101.out) | (go_at_call 47; (with_reducible refine (impl_GoodEntry.calls k a1_0 a1_1 a1_2 a1_3 a1_4 a1_5 a1_6 _ _ l1_7 a1_8 true _ ?side1 ?side2 A7.out).mono ?_); (case side1 => exact (cZ (Kd.C_below HR1_7.out HB.out))); (case side2 => exact HC1_7.out); rintro e w20 ⟨rfl, hb⟩; have _ := bB gb101 hb; have _ := aM (below_step hbZ hb); clear BK101 HB; rename_i BK101 HB; (try clear hb)) | (go_at_call 48; (with_reducible refine (impl_Entry_with_impl_PutEntry_1_10048049.calls k _ _ l0 gb101 a1_0 a1_1 a1_2 a1_3 a1_4 a1_5 a1_6 A1_7 c1_7 l1_7 a1_8 false _ ?side1 ?side2 ?side3 ?side4 ?side5 A9.out).mono ?_); (case side1 => exact (cZ (Kd.C_below HR0.out HB.out))); (case side2 => exact HC0.out); (case side3 => exact bkZ); (case side4 => exact (cZ (Kd.C_below HR1_7.out HB.out))); (case side5 => exact HC1_7.out); rintro e w21 ⟨rfl, hb⟩; have _ := bB gb101 hb; have _ := aM (below_step hbZ hb); clear BK101 HB; rename_i BK101 HB; (try clear hb); have hz22 := cellsZ9 BK101.out) | ((with_reducible refine gate_callee (f := 50) rfl ?_); refine gL 26 Try.func50 #[.slice A0 l0.length c0, .agg #[.string a1_0, .int .i64 a1_1, .int .i64 a1_2, .int .i64 a1_3, .int .i64 a1_4, .int .i64 a1_5, .int .i64 a1_6, .slice A1_7 l1_7.length c1_7, .bool a1_8]] ?_; (with_reducible refine (impl_withEntry.calls k _ _ l0 a1_0 a1_1 a1_2 a1_3 a1_4 a1_5 a1_6 _ _ l1_7 a1_8 t105 _ ?side1 ?side2 ?side3 ?side4 A16.out).mono ?_); (case side1 => exact (cZ (Kd.C_below HR0.out HB.out))); (case side2 => exact HC0.out); (case side3 => exact (cZ (Kd.C_below HR1_7.out HB.out))); (case side4 => exact HC1_7.out); rintro e w23 ⟨v106, rfl, ho0, hb⟩; refine ⟨_, rfl, ?_⟩; have _ := aM (Kd.S_lower (Kd.S_newB ho0 (g := gb101) bkZ) (below_size hbZ)); have _ := bB gb101 hb; have _ := aM (below_step hbZ hb); clear BK101 HB; rename_i HO107 BK101 HB; (try clear hb); (try clear ho0)))
         go_ret2
         exact ⟨_, z674d, by (with_reducible repeat (first | apply Kd.S_alloc | apply Kd.S_drewN | apply Kd.S_drew)); exact Kd.S_mono HO107.out (fun _ hk => trivial), zcb41⟩
     · replace c8 := Bool.eq_false_iff.mpr c8
       subst c8
       rw [if_neg (show ¬ (false = true) by decide)] at H
       simp only [Option.some.injEq, Prod.mk.injEq] at H
       obtain ⟨rfl, rfl⟩ := H
       go_enter Try.func22, Try.ntmps22
       go_wp2_with (first | ((with_reducible refine gate_dst (N := 3) rfl ?_); refine bX 3 45 #[.string a1_0, .int .i64 a1_1, .int .i64 a1_2, .int .i64 a1_3, .int .i64 a1_4, .int .i64 a1_5, .int .i64 a1_6, .slice A1_7 l1_7.length c1_7, .bool a1_8] ?_; intro gb101 hg w24 hbox hb; have _ := aM (below_step hbZ hb); have _ := aM hbox; have _ := szZ hg; have _ := szZ hg; clear HB; rename_i HB BK101 GW101 GE101; clear hb hbox hg) | (go_at_call 28; (with_reducible refine (impl_GoodEntries.calls k _ _ l0 true _ ?side1 ?side2 A5.out).mono ?_); (case side1 => exact (cZ (Kd.C_below HR0.out HB.out))); (case side2 => exact HC0.out); rintro e w25 ⟨rfl, hb⟩; have _ := bB gb101 hb; have _ := aM (below_step hbZ hb); clear BK101 HB; rename_i BK101 HB; (try clear hb); have hz26 := cellsZ9 BK101.out) | (go_at_call 47; (with_reducible refine (impl_GoodEntry.calls k a1_0 a1_1 a1_2 a1_3 a1_4 a1_5 a1_6 _ _ l1_7 a1_8 false _ ?side1 ?side2 A7.out).mono ?_); (case side1 => exact (cZ (Kd.C_below HR1_7.out HB.out))); (case side2 => exact HC1_7.out); rintro e w27 ⟨rfl, hb⟩; have _ := bB gb101 hb; have _ := aM (below_step hbZ hb); clear BK101 HB; rename_i BK101 HB; (try clear hb)))
       go_ret2
       exact ⟨_, z674d, z2bfb, zcb41⟩
   · replace c6 := Bool.eq_false_iff.mpr c6
     subst c6
     rw [if_neg (show ¬ (false = true) by decide)] at H
     simp only [Option.some.injEq, Prod.mk.injEq] at H
     obtain ⟨rfl, rfl⟩ := H
     go_enter Try.func22, Try.ntmps22
     go_wp2_with (first | ((with_reducible refine gate_dst (N := 3) rfl ?_); refine bX 3 45 #[.string a1_0, .int .i64 a1_1, .int .i64 a1_2, .int .i64 a1_3, .int .i64 a1_4, .int .i64 a1_5, .int .i64 a1_6, .slice A1_7 l1_7.length c1_7, .bool a1_8] ?_; intro gb101 hg w28 hbox hb; have _ := aM (below_step hbZ hb); have _ := aM hbox; have _ := szZ hg; have _ := szZ hg; clear HB; rename_i HB BK101 GW101 GE101; clear hb hbox hg) | (go_at_call 28; (with_reducible refine (impl_GoodEntries.calls k _ _ l0 false _ ?side1 ?side2 A5.out).mono ?_); (case side1 => exact (cZ (Kd.C_below HR0.out HB.out))); (case side2 => exact HC0.out); rintro e w29 ⟨rfl, hb⟩; have _ := bB gb101 hb; have _ := aM (below_step hbZ hb); clear BK101 HB; rename_i BK101 HB; (try clear hb)))
     go_ret2
     exact ⟨_, z674d, z2bfb, zcb41⟩
def IsS76 (w0 W : World) (g : Nat) (f0 : List Int) (f1 : Int) (f2 : Int) : Prop := ∃ A0 c0, W.heap[g]? = some (.cells #[.slice A0 f0.length c0, .int .i64 f1, .int .u64 f2] 76 (0, 0)) ∧ w0.heap.size ≤ g ∧ Kd.C (Kd.int .u8) w0 A0 f0.length f0
theorem IsS76.grown {w0 W : World} {g : Nat} {f0 : List Int} {f1 : Int} {f2 : Int} {W1 : World} {row : Option Nat} (h : IsS76 w0 W g f0 f1 f2) (hw : W.grownBy W1 row) (hne : some g ≠ row) : IsS76 w0 W1 g f0 f1 f2 := by
 obtain ⟨A0, c0, hb, hg, hr0⟩ := h
 exact ⟨A0, c0, blk_grown hb hw hne, hg, hr0⟩
theorem IsS76.own_neN {w0 W : World} {g : Nat} {f0 : List Int} {f1 : Int} {f2 : Int} {α : Type} {d : Kd α} {e : Nat} {base : Nat} {ok : Nat → Prop} {v : Value} {xs : List α} (h : IsS76 w0 W g f0 f1 f2) (ho : Kd.N d e W base ok v xs) (ht : e ≠ 76) : some g ≠ v.ownBlock := by
 obtain ⟨A0, c0, hb, hg, hr0⟩ := h
 exact Kd.N_ne ho hb ht
theorem IsS76.fresh {w0 W : World} {g : Nat} {f0 : List Int} {f1 : Int} {f2 : Int} (h : IsS76 w0 W g f0 f1 f2) : ∀ k, W.heap.size ≤ k → k ≠ g := by
 obtain ⟨A0, c0, hb, hg, hr0⟩ := h
 exact Kd.freshB hb
theorem IsS76.kept {w0 W : World} {g : Nat} {f0 : List Int} {f1 : Int} {f2 : Int} {W1 : World} {S : Nat → Prop} (h : IsS76 w0 W g f0 f1 f2) (hk : Kept W W1 S) (hne : ¬ S g) : IsS76 w0 W1 g f0 f1 f2 := by
 obtain ⟨A0, c0, hb, hg, hr0⟩ := h
 exact ⟨A0, c0, blk_kept hb hk hne, hg, hr0⟩
theorem IsS76.below {w0 W : World} {g : Nat} {f0 : List Int} {f1 : Int} {f2 : Int} {W1 : World} (h : IsS76 w0 W g f0 f1 f2) (hw : Below W.heap.size W W1) : IsS76 w0 W1 g f0 f1 f2 := h.grown (grown_of_below hw none) (by simp)
theorem IsS76.alloc {w0 W : World} {g : Nat} {f0 : List Int} {f1 : Int} {f2 : Int} (h : IsS76 w0 W g f0 f1 f2) (o : Obj) : IsS76 w0 (W.alloc o) g f0 f1 f2 := h.below (below_alloc (Below.refl _ _) o)
theorem IsS76.drewN {w0 W : World} {g : Nat} {f0 : List Int} {f1 : Int} {f2 : Int} (h : IsS76 w0 W g f0 f1 f2) (m : Nat) : IsS76 w0 (W.drewN m) g f0 f1 f2 := h
theorem IsS76.drew {w0 W : World} {g : Nat} {f0 : List Int} {f1 : Int} {f2 : Int} (h : IsS76 w0 W g f0 f1 f2) : IsS76 w0 W.drew g f0 f1 f2 := h
theorem IsS76.at_ {w0 W : World} {g : Nat} {f0 : List Int} {f1 : Int} {f2 : Int} {w' : World} {m : Nat} (hq : W.drewN m = w') (h : IsS76 w0 W g f0 f1 f2) : IsS76 w0 w' g f0 f1 f2 := by subst hq; exact IsS76.drewN h m
theorem IsS76.apart {w0 W : World} {g : Nat} {f0 : List Int} {f1 : Int} {f2 : Int} {α : Type} {d : Kd α} {e : Nat} {base : Nat} {ok : Nat → Prop} {v : Value} {xs : List α} (h : IsS76 w0 W g f0 f1 f2) (ho : d.R e W base ok v xs) (ht : ∀ q, q ∈ e :: d.E → q ≠ 76) : d.R e W base (fun k => ok k ∧ k ≠ g) v xs := by
 obtain ⟨A0, c0, hb, hg, hr0⟩ := h
 exact Kd.R_types ho hb ht
theorem IsS76.own_ne {w0 W : World} {g : Nat} {f0 : List Int} {f1 : Int} {f2 : Int} {α : Type} {d : Kd α} {e : Nat} {base : Nat} {ok : Nat → Prop} {v : Value} {xs : List α} (h : IsS76 w0 W g f0 f1 f2) (ho : d.R e W base ok v xs) (ht : e ≠ 76) : some g ≠ v.ownBlock := by
 obtain ⟨A0, c0, hb, hg, hr0⟩ := h
 exact Kd.R_ne ho hb ht
theorem IsS76.apartQ {w0 W : World} {g : Nat} {f0 : List Int} {f1 : Int} {f2 : Int} {α : Type} {d : Kd α} {e : Nat} {base : Nat} {ok : Nat → Prop} {v : Value} {xs : List α} (h : IsS76 w0 W g f0 f1 f2) (ho : d.Q e W base ok v xs) (ht : ∀ q, q ∈ e :: d.E → q ≠ 76) : d.Q e W base (fun k => ok k ∧ k ≠ g) v xs := by
 obtain ⟨A0, c0, hb, hg, hr0⟩ := h
 exact Kd.Q_types ho hb ht
theorem IsS76.own_neQ {w0 W : World} {g : Nat} {f0 : List Int} {f1 : Int} {f2 : Int} {α : Type} {d : Kd α} {e : Nat} {base : Nat} {ok : Nat → Prop} {v : Value} {xs : List α} (h : IsS76 w0 W g f0 f1 f2) (ho : d.Q e W base ok v xs) (ht : e ≠ 76) : some g ≠ v.ownBlock := by
 obtain ⟨A0, c0, hb, hg, hr0⟩ := h
 exact Kd.Q_ne ho hb ht
theorem IsS76.apartS {w0 W : World} {g : Nat} {f0 : List Int} {f1 : Int} {f2 : Int} {α : Type} {d : Kd α} {e : Nat} {base : Nat} {ok : Nat → Prop} {v : Value} {xs : List α} (h : IsS76 w0 W g f0 f1 f2) (ho : d.S e W base ok v xs) (ht : ∀ q, q ∈ e :: d.E → q ≠ 76) : d.S e W base (fun k => ok k ∧ k ≠ g) v xs := by
 obtain ⟨A0, c0, hb, hg, hr0⟩ := h
 exact Kd.S_types ho hb ht
theorem IsS76.own_neS {w0 W : World} {g : Nat} {f0 : List Int} {f1 : Int} {f2 : Int} {α : Type} {d : Kd α} {e : Nat} {base : Nat} {ok : Nat → Prop} {v : Value} {xs : List α} (h : IsS76 w0 W g f0 f1 f2) (ho : d.S e W base ok v xs) (ht : e ≠ 76) : some g ≠ v.ownBlock := by
 obtain ⟨A0, c0, hb, hg, hr0⟩ := h
 exact Kd.S_ne ho hb ht
theorem IsS76.lt {w0 W : World} {g : Nat} {f0 : List Int} {f1 : Int} {f2 : Int} (h : IsS76 w0 W g f0 f1 f2) : g < W.heap.size := by
 obtain ⟨A0, c0, hb, hg, hr0⟩ := h
 exact blk_lt hb
theorem IsS76.ge {w0 W : World} {g : Nat} {f0 : List Int} {f1 : Int} {f2 : Int} (h : IsS76 w0 W g f0 f1 f2) : w0.heap.size ≤ g := by
 obtain ⟨A0, c0, hb, hg, hr0⟩ := h
 exact hg
theorem IsS76.ne_blk {w0 W : World} {g : Nat} {f0 : List Int} {f1 : Int} {f2 : Int} {a : Nat} {cs : Array Value} {t : TypeId} {fr : Nat × Nat} (h : IsS76 w0 W g f0 f1 f2) (hb2 : W.heap[a]? = some (.cells cs t fr)) (ht : t ≠ 76) : g ≠ a := by
 obtain ⟨A0, c0, hb, hg, hr0⟩ := h
 rintro rfl
 rw [hb] at hb2
 injection hb2 with hb2
 injection hb2 with _ ht2
 exact ht ht2.symm
theorem IsS76.far {w0 W : World} {g : Nat} {f0 : List Int} {f1 : Int} {f2 : Int} {p : Addr} (h : IsS76 w0 W g f0 f1 f2) (hne : g ≠ p.block) (u : Value) : IsS76 w0 (W.setCell p u) g f0 f1 f2 := by
 obtain ⟨A0, c0, hb, hg, hr0⟩ := h
 exact ⟨A0, c0, blk_far hb hne u, hg, hr0⟩
theorem cellS76_0 {W : World} {g : Nat} {A0 : Option Addr} {c0 : Nat} {f0 : List Int} {f1 : Int} {f2 : Int} (h : W.heap[g]? = some (.cells #[.slice A0 f0.length c0, .int .i64 f1, .int .u64 f2] 76 (0, 0))) : W.cell? ⟨g, 0, none⟩ = some (.slice A0 f0.length c0) := (blk_cell h 0).trans rfl
theorem cellS76_1 {W : World} {g : Nat} {A0 : Option Addr} {c0 : Nat} {f0 : List Int} {f1 : Int} {f2 : Int} (h : W.heap[g]? = some (.cells #[.slice A0 f0.length c0, .int .i64 f1, .int .u64 f2] 76 (0, 0))) : W.cell? ⟨g, 1, none⟩ = some (.int .i64 f1) := (blk_cell h 1).trans rfl
theorem IsS76.set_1 {w0 W : World} {g : Nat} {f0 : List Int} {f1 : Int} {f2 : Int} (h : IsS76 w0 W g f0 f1 f2) (x : Int) : IsS76 w0 (W.setCell ⟨g, 1, none⟩ (.int .i64 x)) g f0 x f2 := by
 obtain ⟨A0, c0, hb, hg, hr0⟩ := h
 exact ⟨A0, c0, by simpa using blk_set hb 1 (.int .i64 x), hg, hr0⟩
theorem cellS76_2 {W : World} {g : Nat} {A0 : Option Addr} {c0 : Nat} {f0 : List Int} {f1 : Int} {f2 : Int} (h : W.heap[g]? = some (.cells #[.slice A0 f0.length c0, .int .i64 f1, .int .u64 f2] 76 (0, 0))) : W.cell? ⟨g, 2, none⟩ = some (.int .u64 f2) := (blk_cell h 2).trans rfl
theorem IsS76.set_2 {w0 W : World} {g : Nat} {f0 : List Int} {f1 : Int} {f2 : Int} (h : IsS76 w0 W g f0 f1 f2) (x : Int) : IsS76 w0 (W.setCell ⟨g, 2, none⟩ (.int .u64 x)) g f0 f1 x := by
 obtain ⟨A0, c0, hb, hg, hr0⟩ := h
 exact ⟨A0, c0, by simpa using blk_set hb 2 (.int .u64 x), hg, hr0⟩
theorem IsS76.new (w0 W : World) (A0 : Option Addr) (c0 : Nat) (f0 : List Int) (f1 : Int) (f2 : Int) (hB : Below w0.heap.size w0 W) (hr0 : Kd.C (Kd.int .u8) w0 A0 f0.length f0) : IsS76 w0 (W.alloc (.cells #[.slice A0 f0.length c0, .int .i64 f1, .int .u64 f2] 76)) W.heap.size f0 f1 f2 := ⟨A0, c0, by simpa using heap_alloc_new W _, hB.size, hr0⟩
def spec_l1Cur_next.f (s0_0 : List Int) (s0_1 : Int) (s0_2 : Int) : Option (Int × Int × Int) := if s0_1 < (s0_0.length : Int) then (if 0 ≤ s0_1 then (if (wrap64 (s0_1 + 1)) ≤ (s0_0.length : Int) then (some (wrap64 (rd s0_0 s0_1), wrap64 (s0_1 + 1), IntKind.u64.wrap ((IntKind.u64.wrap ((IntKind.u64.wrap (s0_2 * 6364136223846793005)) + (IntKind.u64.wrap (wrap64 (rd s0_0 s0_1))))) + 1442695040888963407))) else (some (wrap64 (Go.bits .and .u64 ((IntKind.u64.wrap ((IntKind.u64.wrap ((IntKind.u64.wrap (s0_2 * 6364136223846793005)) + (IntKind.u64.wrap (wrap64 (rd s0_0 s0_1))))) + 1442695040888963407)) / 1099511627776) 255), wrap64 (s0_1 + 1), IntKind.u64.wrap ((IntKind.u64.wrap ((IntKind.u64.wrap (s0_2 * 6364136223846793005)) + (IntKind.u64.wrap (wrap64 (rd s0_0 s0_1))))) + 1442695040888963407)))) else (none)) else (if (wrap64 (s0_1 + 1)) ≤ (s0_0.length : Int) then (some (0, wrap64 (s0_1 + 1), IntKind.u64.wrap ((IntKind.u64.wrap ((IntKind.u64.wrap (s0_2 * 6364136223846793005)))) + 1442695040888963407))) else (some (wrap64 (Go.bits .and .u64 ((IntKind.u64.wrap ((IntKind.u64.wrap ((IntKind.u64.wrap (s0_2 * 6364136223846793005)))) + 1442695040888963407)) / 1099511627776) 255), wrap64 (s0_1 + 1), IntKind.u64.wrap ((IntKind.u64.wrap ((IntKind.u64.wrap (s0_2 * 6364136223846793005)))) + 1442695040888963407))))
theorem spec_l1Cur_next.calls (g : Nat) (s0_0 : List Int) (s0_1 : Int) (s0_2 : Int) (r1 : Int) (r2 : Int) (r3 : Int) (w0 w : World) (hI : IsS76 w0 w g s0_0 s0_1 s0_2) (hB : Below w0.heap.size w0 w) (h : spec_l1Cur_next.f s0_0 s0_1 s0_2 = some (r1, r2, r3)) :
 Calls Try.prog 84 #[.pointer (some ⟨g, 0, none⟩)] w fun e w' => e = .returned (.int .i64 r1) ∧ IsS76 w0 w' g s0_0 r2 r3 ∧ Below w0.heap.size w0 w' ∧ KeepBut w w' g none := by
 have HI0 := aM hI
 have HK := aM (KeepBut.refl w g none)
 have HL := aM hB.size
 clear hI
 have HW0 := aM hB.size
 have HB := aM hB
 clear hB
 have H : (if s0_1 < (s0_0.length : Int) then (if 0 ≤ s0_1 then (if (wrap64 (s0_1 + 1)) ≤ (s0_0.length : Int) then (some (wrap64 (rd s0_0 s0_1), wrap64 (s0_1 + 1), IntKind.u64.wrap ((IntKind.u64.wrap ((IntKind.u64.wrap (s0_2 * 6364136223846793005)) + (IntKind.u64.wrap (wrap64 (rd s0_0 s0_1))))) + 1442695040888963407))) else (some (wrap64 (Go.bits .and .u64 ((IntKind.u64.wrap ((IntKind.u64.wrap ((IntKind.u64.wrap (s0_2 * 6364136223846793005)) + (IntKind.u64.wrap (wrap64 (rd s0_0 s0_1))))) + 1442695040888963407)) / 1099511627776) 255), wrap64 (s0_1 + 1), IntKind.u64.wrap ((IntKind.u64.wrap ((IntKind.u64.wrap (s0_2 * 6364136223846793005)) + (IntKind.u64.wrap (wrap64 (rd s0_0 s0_1))))) + 1442695040888963407)))) else (none)) else (if (wrap64 (s0_1 + 1)) ≤ (s0_0.length : Int) then (some (0, wrap64 (s0_1 + 1), IntKind.u64.wrap ((IntKind.u64.wrap ((IntKind.u64.wrap (s0_2 * 6364136223846793005)))) + 1442695040888963407))) else (some (wrap64 (Go.bits .and .u64 ((IntKind.u64.wrap ((IntKind.u64.wrap ((IntKind.u64.wrap (s0_2 * 6364136223846793005)))) + 1442695040888963407)) / 1099511627776) 255), wrap64 (s0_1 + 1), IntKind.u64.wrap ((IntKind.u64.wrap ((IntKind.u64.wrap (s0_2 * 6364136223846793005)))) + 1442695040888963407))))) = some (r1, r2, r3) := h
 clear h
 by_cases c2 : s0_1 < (s0_0.length : Int)
 · rw [if_pos c2] at H
   have c2b0 := dL c2
   clear c2
   obtain ⟨c3b0, H⟩ := sE H
   by_cases c4 : (wrap64 (s0_1 + 1)) ≤ (s0_0.length : Int)
   · rw [if_pos c4] at H
     have c4b0 := dE c4
     clear c4
     simp only [Option.some.injEq, Prod.mk.injEq] at H
     obtain ⟨rfl, rfl, rfl⟩ := H
     obtain ⟨ASz5_0, cSz5_0, HGz5, hgz5, HSz5_0⟩ := HI0.out
     have hcz5_0 := cellS76_0 HGz5
     have hcz5_1 := cellS76_1 HGz5
     have hcz5_2 := cellS76_2 HGz5
     have hfz5_1 := blk_frozen HGz5 1
     have hfz5_2 := blk_frozen HGz5 2
     clear HGz5 hgz5
     have p101 : 0 ≤ (s0_1 : Int) := of_decide_eq_true z1200
     have q101 : s0_1 < (s0_0.length : Int) := of_decide_eq_true z1200
     obtain ⟨ad101, e101, hx101_0⟩ := Kd.at_int HSz5_0 s0_1 p101 q101
     cases e101
     replace hx101_0 := pw_cell_below HB.out hx101_0
     replace p101 := eq_true p101
     replace q101 := eq_true q101
     go_enter Try.func84, Try.ntmps84
     go_wp2
     repeat (go_quiet (fail); try go_wp2)
     go_ret
     exact ⟨z674d, z0f56, zc59d, zcbec⟩
   · rw [if_neg c4] at H
     have c4b0 := nE c4
     clear c4
     simp only [Option.some.injEq, Prod.mk.injEq] at H
     obtain ⟨rfl, rfl, rfl⟩ := H
     obtain ⟨ASz6_0, cSz6_0, HGz6, hgz6, HSz6_0⟩ := HI0.out
     have hcz6_0 := cellS76_0 HGz6
     have hcz6_1 := cellS76_1 HGz6
     have hcz6_2 := cellS76_2 HGz6
     have hfz6_1 := blk_frozen HGz6 1
     have hfz6_2 := blk_frozen HGz6 2
     clear HGz6 hgz6
     have p101 : 0 ≤ (s0_1 : Int) := of_decide_eq_true z1200
     have q101 : s0_1 < (s0_0.length : Int) := of_decide_eq_true z1200
     obtain ⟨ad101, e101, hx101_0⟩ := Kd.at_int HSz6_0 s0_1 p101 q101
     cases e101
     replace hx101_0 := pw_cell_below HB.out hx101_0
     replace p101 := eq_true p101
     replace q101 := eq_true q101
     go_enter Try.func84, Try.ntmps84
     go_wp2
     repeat (go_quiet (fail); try go_wp2)
     go_ret
     exact ⟨z674d, z0f56, zc59d, zcbec⟩
 · rw [if_neg c2] at H
   have c2b0 := nL c2
   clear c2
   by_cases c7 : (wrap64 (s0_1 + 1)) ≤ (s0_0.length : Int)
   · rw [if_pos c7] at H
     have c7b0 := dE c7
     clear c7
     simp only [Option.some.injEq, Prod.mk.injEq] at H
     obtain ⟨rfl, rfl, rfl⟩ := H
     obtain ⟨ASz8_0, cSz8_0, HGz8, hgz8, HSz8_0⟩ := HI0.out
     have hcz8_0 := cellS76_0 HGz8
     have hcz8_1 := cellS76_1 HGz8
     have hcz8_2 := cellS76_2 HGz8
     have hfz8_1 := blk_frozen HGz8 1
     have hfz8_2 := blk_frozen HGz8 2
     clear HGz8 hgz8
     go_enter Try.func84, Try.ntmps84
     go_wp2
     repeat (go_quiet (fail); try go_wp2)
     go_ret
     exact ⟨z674d, z0f56, zc59d, zcbec⟩
   · rw [if_neg c7] at H
     have c7b0 := nE c7
     clear c7
     simp only [Option.some.injEq, Prod.mk.injEq] at H
     obtain ⟨rfl, rfl, rfl⟩ := H
     obtain ⟨ASz9_0, cSz9_0, HGz9, hgz9, HSz9_0⟩ := HI0.out
     have hcz9_0 := cellS76_0 HGz9
     have hcz9_1 := cellS76_1 HGz9
     have hcz9_2 := cellS76_2 HGz9
     have hfz9_1 := blk_frozen HGz9 1
     have hfz9_2 := blk_frozen HGz9 2
     clear HGz9 hgz9
     go_enter Try.func84, Try.ntmps84
     go_wp2
     repeat (go_quiet (fail); try go_wp2)
     go_ret
     exact ⟨z674d, z0f56, zc59d, zcbec⟩
def spec_l1Cur_pick.f (s0_0 : List Int) (s0_1 : Int) (s0_2 : Int) (a1 : Int) : Option (Int × Int × Int) := if a1 ≤ 1 then (some (0, s0_1, s0_2)) else ((spec_l1Cur_next.f s0_0 s0_1 s0_2).bind fun bt101 => (if a1 > 200 then ((spec_l1Cur_next.f s0_0 bt101.2.1 bt101.2.2).bind fun bt104 => (if a1 = 0 then (none) else (some (Int.tmod (wrap64 ((wrap64 (bt101.1 * 256)) + bt104.1)) a1, bt104.2.1, bt104.2.2)))) else (if a1 = 0 then (none) else (some (Int.tmod bt101.1 a1, bt101.2.1, bt101.2.2)))))
theorem spec_l1Cur_pick.calls (g : Nat) (s0_0 : List Int) (s0_1 : Int) (s0_2 : Int) (a1 : Int) (r1 : Int) (r2 : Int) (r3 : Int) (w0 w : World) (hI : IsS76 w0 w g s0_0 s0_1 s0_2) (hB : Below w0.heap.size w0 w) (h : spec_l1Cur_pick.f s0_0 s0_1 s0_2 a1 = some (r1, r2, r3)) :
 Calls Try.prog 53 #[.pointer (some ⟨g, 0, none⟩), .int .i64 a1] w fun e w' => e = .returned (.int .i64 r1) ∧ IsS76 w0 w' g s0_0 r2 r3 ∧ Below w0.heap.size w0 w' ∧ KeepBut w w' g none := by
 have HI0 := aM hI
 have HK := aM (KeepBut.refl w g none)
 have HL := aM hB.size
 clear hI
 have HW0 := aM hB.size
 have HB := aM hB
 clear hB
 have H : (if a1 ≤ 1 then (some (0, s0_1, s0_2)) else ((spec_l1Cur_next.f s0_0 s0_1 s0_2).bind fun bt101 => (if a1 > 200 then ((spec_l1Cur_next.f s0_0 bt101.2.1 bt101.2.2).bind fun bt104 => (if a1 = 0 then (none) else (some (Int.tmod (wrap64 ((wrap64 (bt101.1 * 256)) + bt104.1)) a1, bt104.2.1, bt104.2.2)))) else (if a1 = 0 then (none) else (some (Int.tmod bt101.1 a1, bt101.2.1, bt101.2.2)))))) = some (r1, r2, r3) := h
 clear h
 by_cases c3 : a1 ≤ 1
 · rw [if_pos c3] at H
   have c3b0 := dE c3
   clear c3
   simp only [Option.some.injEq, Prod.mk.injEq] at H
   obtain ⟨rfl, rfl, rfl⟩ := H
   go_enter Try.func53, Try.ntmps53
   go_wp2
   go_ret
   exact ⟨z674d, z0f56, zc59d, zcbec⟩
 · rw [if_neg c3] at H
   have c3b0 := nE c3
   clear c3
   obtain ⟨⟨t101, t102, t103⟩, A4, H⟩ := bS H; try dsimp only at H
   by_cases c5 : a1 > 200
   · rw [if_pos c5] at H
     have c5b0 := dL c5
     clear c5
     obtain ⟨⟨t104, t105, t106⟩, A6, H⟩ := bS H; try dsimp only at H
     replace H := ifN H; obtain ⟨c7, H⟩ := H
     have c7b0 := eqN c7
     simp only [Option.some.injEq, Prod.mk.injEq] at H
     obtain ⟨rfl, rfl, rfl⟩ := H
     go_enter Try.func53, Try.ntmps53
     go_wp2_with (first | ((with_reducible refine gate_callee (f := 84) rfl ?_); refine gL 9 Try.func84 #[.pointer (some ⟨g, 0, none⟩)] ?_; (with_reducible refine (spec_l1Cur_next.calls g s0_0 s0_1 s0_2 t101 t102 t103 w0 _ ?side1 ?side2 A4.out).mono ?_); (case side1 => exact z0f56); (case side2 => exact zc59d); rintro e w8 ⟨rfl, hi, hb, hk⟩; refine ⟨_, rfl, ?_⟩; have _ := aM (KeepBut.trans zcbec hk (.inl rfl)); have _ := aM hb; have _ := aM hi; clear HK HB HI0; rename_i HK HB HI0; (try clear hb); (try clear hk); (try clear hi)) | ((with_reducible refine gate_callee (f := 84) rfl ?_); refine gL 15 Try.func84 #[.pointer (some ⟨g, 0, none⟩)] ?_; (with_reducible refine (spec_l1Cur_next.calls g s0_0 t102 t103 t104 t105 t106 w0 _ ?side1 ?side2 A6.out).mono ?_); (case side1 => exact z0f56); (case side2 => exact zc59d); rintro e w9 ⟨rfl, hi, hb, hk⟩; refine ⟨_, rfl, ?_⟩; have _ := aM (KeepBut.trans zcbec hk (.inl rfl)); have _ := aM hb; have _ := aM hi; clear HK HB HI0; rename_i HK HB HI0; (try clear hb); (try clear hk); (try clear hi)))
     go_ret
     exact ⟨z674d, z0f56, zc59d, zcbec⟩
   · rw [if_neg c5] at H
     have c5b0 := nL c5
     clear c5
     replace H := ifN H; obtain ⟨c10, H⟩ := H
     have c10b0 := eqN c10
     simp only [Option.some.injEq, Prod.mk.injEq] at H
     obtain ⟨rfl, rfl, rfl⟩ := H
     go_enter Try.func53, Try.ntmps53
     go_wp2_with (first | ((with_reducible refine gate_callee (f := 84) rfl ?_); refine gL 9 Try.func84 #[.pointer (some ⟨g, 0, none⟩)] ?_; (with_reducible refine (spec_l1Cur_next.calls g s0_0 s0_1 s0_2 t101 t102 t103 w0 _ ?side1 ?side2 A4.out).mono ?_); (case side1 => exact z0f56); (case side2 => exact zc59d); rintro e w11 ⟨rfl, hi, hb, hk⟩; refine ⟨_, rfl, ?_⟩; have _ := aM (KeepBut.trans zcbec hk (.inl rfl)); have _ := aM hb; have _ := aM hi; clear HK HB HI0; rename_i HK HB HI0; (try clear hb); (try clear hk); (try clear hi)))
     go_ret
     exact ⟨z674d, z0f56, zc59d, zcbec⟩
def spec_l1Cur_one.f (s0_0 : List Int) (s0_1 : Int) (s0_2 : Int) (a1 : Int) : Option (Bool × Int × Int) := (spec_l1Cur_pick.f s0_0 s0_1 s0_2 a1).bind fun bt101 => (some ((bt101.1 == 0), bt101.2.1, bt101.2.2))
theorem spec_l1Cur_one.calls (g : Nat) (s0_0 : List Int) (s0_1 : Int) (s0_2 : Int) (a1 : Int) (r1 : Bool) (r2 : Int) (r3 : Int) (w0 w : World) (hI : IsS76 w0 w g s0_0 s0_1 s0_2) (hB : Below w0.heap.size w0 w) (h : spec_l1Cur_one.f s0_0 s0_1 s0_2 a1 = some (r1, r2, r3)) :
 Calls Try.prog 52 #[.pointer (some ⟨g, 0, none⟩), .int .i64 a1] w fun e w' => e = .returned (.bool r1) ∧ IsS76 w0 w' g s0_0 r2 r3 ∧ Below w0.heap.size w0 w' ∧ KeepBut w w' g none := by
 have HI0 := aM hI
 have HK := aM (KeepBut.refl w g none)
 have HL := aM hB.size
 clear hI
 have HW0 := aM hB.size
 have HB := aM hB
 clear hB
 have H : ((spec_l1Cur_pick.f s0_0 s0_1 s0_2 a1).bind fun bt101 => (some ((bt101.1 == 0), bt101.2.1, bt101.2.2))) = some (r1, r2, r3) := h
 clear h
 obtain ⟨⟨t101, t102, t103⟩, A3, H⟩ := bS H; try dsimp only at H
 simp only [Option.some.injEq, Prod.mk.injEq] at H
 obtain ⟨rfl, rfl, rfl⟩ := H
 go_enter Try.func52, Try.ntmps52
 go_wp2_with (first | ((with_reducible refine gate_callee (f := 53) rfl ?_); refine gL 7 Try.func53 #[.pointer (some ⟨g, 0, none⟩), .int .i64 a1] ?_; (with_reducible refine (spec_l1Cur_pick.calls g s0_0 s0_1 s0_2 a1 t101 t102 t103 w0 _ ?side1 ?side2 A3.out).mono ?_); (case side1 => exact z0f56); (case side2 => exact zc59d); rintro e w4 ⟨rfl, hi, hb, hk⟩; refine ⟨_, rfl, ?_⟩; have _ := aM (KeepBut.trans zcbec hk (.inl rfl)); have _ := aM hb; have _ := aM hi; clear HK HB HI0; rename_i HK HB HI0; (try clear hb); (try clear hk); (try clear hi)))
 go_ret
 exact ⟨z674d, z0f56, zc59d, zcbec⟩
def spec_l1Cur_among.f (s0_0 : List Int) (s0_1 : Int) (s0_2 : Int) (l1 : List Int) : Option (Int × Int × Int) := (spec_l1Cur_pick.f s0_0 s0_1 s0_2 (l1.length : Int)).bind fun bt101 => (if 0 ≤ bt101.1 then (if bt101.1 < (l1.length : Int) then (some (rd l1 bt101.1, bt101.2.1, bt101.2.2)) else (none)) else (none))
theorem spec_l1Cur_among.calls (g : Nat) (s0_0 : List Int) (s0_1 : Int) (s0_2 : Int) (A1 : Option Addr) (c1 : Nat) (l1 : List Int) (r1 : Int) (r2 : Int) (r3 : Int) (w0 w : World) (hI : IsS76 w0 w g s0_0 s0_1 s0_2) (hB : Below w0.heap.size w0 w) (hr1 : Kd.C (Kd.int .i64) w A1 l1.length l1) (hc1 : l1.length ≤ c1) (hf1 : ∀ ad, A1 = some ad → 0 < l1.length → ad.block ≠ g) (h : spec_l1Cur_among.f s0_0 s0_1 s0_2 l1 = some (r1, r2, r3)) :
 Calls Try.prog 60 #[.pointer (some ⟨g, 0, none⟩), .slice A1 l1.length c1] w fun e w' => e = .returned (.int .i64 r1) ∧ IsS76 w0 w' g s0_0 r2 r3 ∧ Below w0.heap.size w0 w' ∧ KeepBut w w' g none := by
 have HR1 := aM hr1
 have HC1 := aM hc1
 clear hr1 hc1
 have HI0 := aM hI
 have HK := aM (KeepBut.refl w g none)
 have HL := aM hB.size
 clear hI
 have HW0 := aM hB.size
 have HB := aM hB
 clear hB
 have H : ((spec_l1Cur_pick.f s0_0 s0_1 s0_2 (l1.length : Int)).bind fun bt101 => (if 0 ≤ bt101.1 then (if bt101.1 < (l1.length : Int) then (some (rd l1 bt101.1, bt101.2.1, bt101.2.2)) else (none)) else (none))) = some (r1, r2, r3) := h
 clear h
 obtain ⟨⟨t101, t102, t103⟩, A3, H⟩ := bS H; try dsimp only at H
 obtain ⟨c4b0, H⟩ := sE H
 obtain ⟨c5b0, H⟩ := sL H
 simp only [Option.some.injEq, Prod.mk.injEq] at H
 obtain ⟨rfl, rfl, rfl⟩ := H
 go_enter Try.func60, Try.ntmps60
 go_wp2_with (first | ((with_reducible refine gate_callee (f := 53) rfl ?_); refine gL 9 Try.func53 #[.pointer (some ⟨g, 0, none⟩), .int .i64 (l1.length : Int)] ?_; (with_reducible refine (spec_l1Cur_pick.calls g s0_0 s0_1 s0_2 (l1.length : Int) t101 t102 t103 w0 _ ?side1 ?side2 A3.out).mono ?_); (case side1 => exact z0f56); (case side2 => exact zc59d); rintro e w6 ⟨rfl, hi, hb, hk⟩; refine ⟨_, rfl, ?_⟩; have _ := aM (KeepBut.trans zcbec hk (.inl rfl)); have _ := aM hb; have _ := aM hi; clear HK HB HI0; rename_i HK HB HI0; (try clear hb); (try clear hk); (try clear hi); have p104 : 0 ≤ (t101 : Int) := of_decide_eq_true z1200; have q104 : t101 < (l1.length : Int) := of_decide_eq_true z1200; obtain ⟨ad104, e104, hx104_0⟩ := Kd.at_int HR1.out t101 p104 q104; cases e104; replace hx104_0 := keep_cell HK.out hx104_0 (by first | (rw [add_block]; exact hf1 _ rfl (by omega)) | exact hf1 _ rfl (by omega) | exact hf1 ad104 rfl (by omega)); replace p104 := eq_true p104; replace q104 := eq_true q104))
 go_ret
 exact ⟨z674d, z0f56, zc59d, zcbec⟩
def spec_l1Cur_of.f (s0_0 : List Int) (s0_1 : Int) (s0_2 : Int) (l1 : List ByteArray) : Option (ByteArray × Int × Int) := (spec_l1Cur_pick.f s0_0 s0_1 s0_2 (l1.length : Int)).bind fun bt101 => (if 0 ≤ bt101.1 then (if bt101.1 < (l1.length : Int) then (some (rdOf ByteArray.empty l1 bt101.1, bt101.2.1, bt101.2.2)) else (none)) else (none))
theorem spec_l1Cur_of.calls (g : Nat) (s0_0 : List Int) (s0_1 : Int) (s0_2 : Int) (A1 : Option Addr) (c1 : Nat) (l1 : List ByteArray) (r1 : ByteArray) (r2 : Int) (r3 : Int) (w0 w : World) (hI : IsS76 w0 w g s0_0 s0_1 s0_2) (hB : Below w0.heap.size w0 w) (hr1 : Kd.C Kd.string w A1 l1.length l1) (hc1 : l1.length ≤ c1) (hf1 : ∀ ad, A1 = some ad → 0 < l1.length → ad.block ≠ g) (h : spec_l1Cur_of.f s0_0 s0_1 s0_2 l1 = some (r1, r2, r3)) :
 Calls Try.prog 86 #[.pointer (some ⟨g, 0, none⟩), .slice A1 l1.length c1] w fun e w' => e = .returned (.string r1) ∧ IsS76 w0 w' g s0_0 r2 r3 ∧ Below w0.heap.size w0 w' ∧ KeepBut w w' g none := by
 have HR1 := aM hr1
 have HC1 := aM hc1
 clear hr1 hc1
 have HI0 := aM hI
 have HK := aM (KeepBut.refl w g none)
 have HL := aM hB.size
 clear hI
 have HW0 := aM hB.size
 have HB := aM hB
 clear hB
 have H : ((spec_l1Cur_pick.f s0_0 s0_1 s0_2 (l1.length : Int)).bind fun bt101 => (if 0 ≤ bt101.1 then (if bt101.1 < (l1.length : Int) then (some (rdOf ByteArray.empty l1 bt101.1, bt101.2.1, bt101.2.2)) else (none)) else (none))) = some (r1, r2, r3) := h
 clear h
 obtain ⟨⟨t101, t102, t103⟩, A3, H⟩ := bS H; try dsimp only at H
 obtain ⟨c4b0, H⟩ := sE H
 obtain ⟨c5b0, H⟩ := sL H
 simp only [Option.some.injEq, Prod.mk.injEq] at H
 obtain ⟨rfl, rfl, rfl⟩ := H
 go_enter Try.func86, Try.ntmps86
 go_wp2_with (first | ((with_reducible refine gate_callee (f := 53) rfl ?_); refine gL 9 Try.func53 #[.pointer (some ⟨g, 0, none⟩), .int .i64 (l1.length : Int)] ?_; (with_reducible refine (spec_l1Cur_pick.calls g s0_0 s0_1 s0_2 (l1.length : Int) t101 t102 t103 w0 _ ?side1 ?side2 A3.out).mono ?_); (case side1 => exact z0f56); (case side2 => exact zc59d); rintro e w6 ⟨rfl, hi, hb, hk⟩; refine ⟨_, rfl, ?_⟩; have _ := aM (KeepBut.trans zcbec hk (.inl rfl)); have _ := aM hb; have _ := aM hi; clear HK HB HI0; rename_i HK HB HI0; (try clear hb); (try clear hk); (try clear hi); have p104 : 0 ≤ (t101 : Int) := of_decide_eq_true z1200; have q104 : t101 < (l1.length : Int) := of_decide_eq_true z1200; obtain ⟨ad104, e104, hx104_0⟩ := Kd.at_string HR1.out t101 p104 q104; cases e104; replace hx104_0 := keep_cell HK.out hx104_0 (by first | (rw [add_block]; exact hf1 _ rfl (by omega)) | exact hf1 _ rfl (by omega) | exact hf1 ad104 rfl (by omega)); replace p104 := eq_true p104; replace q104 := eq_true q104))
 go_ret
 exact ⟨z674d, z0f56, zc59d, zcbec⟩
def spec_l1Cur_keyText.f (s0_0 : List Int) (s0_1 : Int) (s0_2 : Int) : Option (ByteArray × Int × Int) := (spec_l1Cur_of.f s0_0 s0_1 s0_2 (([(⟨#[97]⟩ : ByteArray), (⟨#[97, 98]⟩ : ByteArray), (⟨#[98]⟩ : ByteArray), (⟨#[98, 97]⟩ : ByteArray), (⟨#[99]⟩ : ByteArray), (⟨#[99, 112, 117]⟩ : ByteArray), (⟨#[100]⟩ : ByteArray), (⟨#[109]⟩ : ByteArray)] : List ByteArray))).bind fun bt104 => (some (bt104.1, bt104.2.1, bt104.2.2))
theorem spec_l1Cur_keyText.calls (g : Nat) (s0_0 : List Int) (s0_1 : Int) (s0_2 : Int) (r1 : ByteArray) (r2 : Int) (r3 : Int) (w0 w : World) (hI : IsS76 w0 w g s0_0 s0_1 s0_2) (hB : Below w0.heap.size w0 w) (h : spec_l1Cur_keyText.f s0_0 s0_1 s0_2 = some (r1, r2, r3)) :
 Calls Try.prog 61 #[.pointer (some ⟨g, 0, none⟩)] w fun e w' => e = .returned (.string r1) ∧ IsS76 w0 w' g s0_0 r2 r3 ∧ Below w0.heap.size w0 w' ∧ KeepBut w w' g none := by
 have HI0 := aM hI
 have HK := aM (KeepBut.refl w g none)
 have HL := aM hB.size
 clear hI
 have HW0 := aM hB.size
 have HB := aM hB
 clear hB
 have H : ((spec_l1Cur_of.f s0_0 s0_1 s0_2 (([(⟨#[97]⟩ : ByteArray), (⟨#[97, 98]⟩ : ByteArray), (⟨#[98]⟩ : ByteArray), (⟨#[98, 97]⟩ : ByteArray), (⟨#[99]⟩ : ByteArray), (⟨#[99, 112, 117]⟩ : ByteArray), (⟨#[100]⟩ : ByteArray), (⟨#[109]⟩ : ByteArray)] : List ByteArray))).bind fun bt104 => (some (bt104.1, bt104.2.1, bt104.2.2))) = some (r1, r2, r3) := h
 clear h
 obtain ⟨y101, hy101⟩ : ∃ y_ : List ByteArray, y_ = (([(⟨#[97]⟩ : ByteArray), (⟨#[97, 98]⟩ : ByteArray), (⟨#[98]⟩ : ByteArray), (⟨#[98, 97]⟩ : ByteArray), (⟨#[99]⟩ : ByteArray), (⟨#[99, 112, 117]⟩ : ByteArray), (⟨#[100]⟩ : ByteArray), (⟨#[109]⟩ : ByteArray)] : List ByteArray)) := ⟨_, rfl⟩
 first | (replace H := bindS H; rw [← hy101] at H; try dsimp only at H) | rw [← hy101] at H
 have Ny101 := aM hy101
 clear hy101
 obtain ⟨⟨t104, t105, t106⟩, A2, H⟩ := bS H; try dsimp only at H
 simp only [Option.some.injEq, Prod.mk.injEq] at H
 obtain ⟨rfl, rfl, rfl⟩ := H
 go_enter Try.func61, Try.ntmps61
 go_wp2_with (first | ((with_reducible refine gate_dst (N := 4) rfl ?_); refine Kd.R_lit Kd.string _ 9 ?hg (N := 4) ?hd (xs := ([(⟨#[97]⟩ : ByteArray), (⟨#[97, 98]⟩ : ByteArray), (⟨#[98]⟩ : ByteArray), (⟨#[98, 97]⟩ : ByteArray), (⟨#[99]⟩ : ByteArray), (⟨#[99, 112, 117]⟩ : ByteArray), (⟨#[100]⟩ : ByteArray), (⟨#[109]⟩ : ByteArray)] : List ByteArray)) (inner := [.string (⟨#[97]⟩ : ByteArray), .string (⟨#[97, 98]⟩ : ByteArray), .string (⟨#[98]⟩ : ByteArray), .string (⟨#[98, 97]⟩ : ByteArray), .string (⟨#[99]⟩ : ByteArray), .string (⟨#[99, 112, 117]⟩ : ByteArray), .string (⟨#[100]⟩ : ByteArray), .string (⟨#[109]⟩ : ByteArray)]) (ok := fun _ => True) (okp := fun _ => True) ?hr ?hp (fun _ hk => hk) trivial (Below.refl _ _) (Nat.le_refl _) (by simp) ?_; (case hd => rfl); (case hg => rfl); (case hr => first | (go_simp; done) | (go_simp; rfl)); (case hp => exact (Reps.one (show Kd.M Kd.string _ _ _ (⟨#[97]⟩ : ByteArray) [.string (⟨#[97]⟩ : ByteArray)] from rfl) (Reps.one (show Kd.M Kd.string _ _ _ (⟨#[97, 98]⟩ : ByteArray) [.string (⟨#[97, 98]⟩ : ByteArray)] from rfl) (Reps.one (show Kd.M Kd.string _ _ _ (⟨#[98]⟩ : ByteArray) [.string (⟨#[98]⟩ : ByteArray)] from rfl) (Reps.one (show Kd.M Kd.string _ _ _ (⟨#[98, 97]⟩ : ByteArray) [.string (⟨#[98, 97]⟩ : ByteArray)] from rfl) (Reps.one (show Kd.M Kd.string _ _ _ (⟨#[99]⟩ : ByteArray) [.string (⟨#[99]⟩ : ByteArray)] from rfl) (Reps.one (show Kd.M Kd.string _ _ _ (⟨#[99, 112, 117]⟩ : ByteArray) [.string (⟨#[99, 112, 117]⟩ : ByteArray)] from rfl) (Reps.one (show Kd.M Kd.string _ _ _ (⟨#[100]⟩ : ByteArray) [.string (⟨#[100]⟩ : ByteArray)] from rfl) (Reps.one (show Kd.M Kd.string _ _ _ (⟨#[109]⟩ : ByteArray) [.string (⟨#[109]⟩ : ByteArray)] from rfl) (Reps.none _ _)))))))))); intro v102 w3 ho4 hb hg_ hnew_; clear hg_ hnew_; (first | rw [← Ny101.out] at ho4 | (simp only [Int.reduceToNat] at ho4; rw [← Ny101.out] at ho4)); have _ := aM (Kd.R_lower ho4 (keep_size (w := w) (g := g) (row := none) zcbec)); have _ := aM (IsS76.below z0f56 hb); have _ := aM (KeepBut.trans zcbec (KeepBut.of_below hb g none) (.inl rfl)); have _ := aM (below_step zc59d hb); clear HI0 HK HB; rename_i HO103 HI0 HK HB; clear hb ho4; obtain ⟨Ao5, co5, eo5⟩ := Kd.R_slice HO103.out; subst eo5) | ((with_reducible refine gate_callee (f := 86) rfl ?_); refine gL 5 Try.func86 #[.pointer (some ⟨g, 0, none⟩), .slice Ao5 y101.length co5] ?_; (with_reducible refine (spec_l1Cur_of.calls g s0_0 s0_1 s0_2 _ _ y101 t104 t105 t106 w0 _ ?side1 ?side2 ?side3 ?side4 ?side5 A2.out).mono ?_); (case side1 => exact z0f56); (case side2 => exact zc59d); (case side3 => exact (by repeat (first | exact (Kd.R_reads' HO103.out).2.2 | (with_reducible refine Kd.C_alloc ?_ _) | (with_reducible refine Kd.C_drewN ?_ _) | (with_reducible refine Kd.C_drew ?_)))); (case side4 => exact (Kd.R_reads' HO103.out).2.1); (case side5 => exact far_slice (IsS76.own_ne HI0.out HO103.out (by decide))); rintro e w6 ⟨rfl, hi, hb, hk⟩; refine ⟨_, rfl, ?_⟩; have _ := aM (Kd.R_mono (Kd.R_keep (IsS76.apart (show IsS76 w0 _ g s0_0 s0_1 s0_2 from by repeat (first | (with_reducible first | exact HI0.out | apply IsS76.alloc | apply IsS76.drewN | apply IsS76.drew | apply IsS76.set_1 | apply IsS76.set_2) | exact HI0.out)) (rZ HO103.out) (by decide)) hk (fun _ h => h.2)) (fun _ h => h.1)); have _ := aM (KeepBut.trans zcbec hk (.inl rfl)); have _ := aM hb; have _ := aM hi; clear HO103 HK HB HI0; rename_i HO103 HK HB HI0; (try clear hb); (try clear hk); (try clear hi)))
 go_ret
 exact ⟨z674d, z0f56, zc59d, zcbec⟩
def spec_l4Zero.f  : Option (Int × Int × Int × Int × List Int × Bool) := if 8 ≤ 35184372088832 then (some (0, 0, 0, 0, (List.replicate 8 0), false)) else (none)
theorem spec_l4Zero.calls  (r1 : Int) (r2 : Int) (r3 : Int) (r4 : Int) (r5 : List Int) (r6 : Bool) (w : World) (h : spec_l4Zero.f  = some (r1, r2, r3, r4, r5, r6)) :
 Calls Try.prog 66 #[] w fun e w' => ∃ v4_ : Value, e = .returned (.agg #[.int .i64 r1, .int .i64 r2, .int .i64 r3, .int .i64 r4, v4_, .bool r6]) ∧ Kd.R (Kd.int .i64) 3 w' w.heap.size (fun _ => True) v4_ r5 ∧ Below w.heap.size w w' := by
 have hu26 := Try.underlying26
 have HB := aM (Below.refl w.heap.size w)
 have H : (if 8 ≤ 35184372088832 then (some (0, 0, 0, 0, (List.replicate 8 0), false)) else (none)) = some (r1, r2, r3, r4, r5, r6) := h
 clear h
 by_cases c1 : 8 ≤ 35184372088832
 · rw [if_pos c1] at H
   have c1b0 := eq_true c1
   have c1b1 : decide (8 ≤ 35184372088832) = true := decide_eq_true c1
   clear c1
   obtain ⟨y102, hy102⟩ : ∃ y_ : List Int, y_ = (List.replicate 8 0) := ⟨_, rfl⟩
   replace H : (some (0, 0, 0, 0, y102, false)) = some (r1, r2, r3, r4, r5, r6) := by first | (rw [hy102]; with_reducible exact H) | (have H2_ := (Option.bind_some _ _).symm.trans H; rw [hy102]; with_reducible exact H2_) | (have H2_ := (Option.bind_some _ _).symm.trans H; with_reducible exact H2_) | with_reducible exact H | (rw [hy102]; exact H) | exact H
   have Ny102 := aM hy102
   clear hy102
   simp only [Option.some.injEq, Prod.mk.injEq] at H
   obtain ⟨rfl, rfl, rfl, rfl, rfl, rfl⟩ := H
   go_enter Try.func66, Try.ntmps66
   go_wp2_with (first | ((with_reducible refine gate_dst (N := 0) rfl ?_); refine box_event ?hg (N := 0) ?hd (cs := #[.int .i64 0, .int .i64 0, .int .i64 0, .int .i64 0, .slice none 0 0, .bool false]) (t := 26) ?hr ?_; (case hd => rfl); (case hg => rfl); (case hr => first | (go_simp; done) | (go_simp; rfl)); intro gb101 hg w2 hbox hb; have _ := aM (below_step hbZ hb); have _ := aM hbox; have _ := szZ hg; have _ := szZ hg; clear HB; rename_i HB BK101 GW101 GE101; clear hb hbox hg) | ((with_reducible refine gate_dst (N := 1) rfl ?_); refine Kd.R_make (Kd.int .i64) _ 3 rfl (N := 1) rfl 24 _ _ rfl 8 rfl rfl Try.underlying24 (.int .i64 0) 8 info3 rfl (by decide) (by omega) 0 (ok := fun _ => True) (okp := fun _ => True) rfl (fun _ hk => hk) trivial (by omega) (by omega) (Below.refl _ _) (Nat.le_refl _) ?_; intro v103 w3 ho4 hb hg_ hnew_; clear hg_ hnew_; (first | rw [← Ny102.out] at ho4 | (simp only [Int.reduceToNat] at ho4; rw [← Ny102.out] at ho4)); have _ := aM (Kd.R_lower ho4 (below_size hbZ)); have _ := bB gb101 hb; have _ := aM (below_step hbZ hb); clear BK101 HB; rename_i HO104 BK101 HB; clear hb ho4; obtain ⟨Ao5, co5, eo5⟩ := Kd.R_slice HO104.out; subst eo5; obtain ⟨hcz6_0, hcz6_1, hcz6_2, hcz6_3, hcz6_4, hcz6_5, hfz6_0, hfz6_1, hfz6_2, hfz6_3, hfz6_4, hfz6_5⟩ := cellsZ6 BK101.out))
   refine bodyPost_ret (results_cell_row rfl _ _ gb101 26 #[.int .i64 0, .int .i64 0, .int .i64 0, .int .i64 0, .slice Ao5 y102.length co5, .bool false] (0, 0) _ rfl bkZ Try.underlying26 rfl (by kernel_rfl)) rfl ?_
   exact ⟨_, z674d, by (with_reducible repeat (first | apply Kd.R_alloc | apply Kd.R_drewN | apply Kd.R_drew)); exact Kd.R_mono (Kd.R_far (p := ⟨gb101, 5, none⟩) (Kd.R_far (p := ⟨gb101, 4, none⟩) (Kd.R_far (p := ⟨gb101, 3, none⟩) (Kd.R_far (p := ⟨gb101, 2, none⟩) (Kd.R_far (p := ⟨gb101, 1, none⟩) (Kd.R_far (p := ⟨gb101, 0, none⟩) (Kd.R_types HO104.out BK101.out (by decide)) (fun _ hk => hk.2) (.int .i64 0)) (fun _ hk => hk.2) (.int .i64 0)) (fun _ hk => hk.2) (.int .i64 0)) (fun _ hk => hk.2) (.int .i64 0)) (fun _ hk => hk.2) (.slice Ao5 y102.length co5)) (fun _ hk => hk.2) (.bool false)) (fun _ hk => trivial), zcb41⟩
 · rw [if_neg c1] at H
   exact absurd H (by simp)
mutual
def spec_l4Join.j0 : Nat → Int → Int → Int → Int → List Int → Bool → Int → Int → Int → Int → List Int → Bool → Int → Int → Int → Int → Bool → Option (Int × Int × Int × Int × List Int × Bool)
 | 0, _, _, _, _, _, _, _, _, _, _, _, _, _, _, _, _, _ => none
 | k + 1, x90003000, x90003001, x90003002, x90003003, x90003004, x90003005, x90004000, x90004001, x90004002, x90004003, x90004004, x90004005, x90006000, x90006001, x90006002, x90006003, x90006005 => if x90004002 < x90006002 then (spec_l4Join.j1 k x90003000 x90003001 x90003002 x90003003 x90003004 x90003005 x90004000 x90004001 x90004002 x90004003 x90004004 x90004005 x90006000 x90006001 x90004002 x90006003 x90006005) else (spec_l4Join.j1 k x90003000 x90003001 x90003002 x90003003 x90003004 x90003005 x90004000 x90004001 x90004002 x90004003 x90004004 x90004005 x90006000 x90006001 x90006002 x90006003 x90006005)
def spec_l4Join.j1 : Nat → Int → Int → Int → Int → List Int → Bool → Int → Int → Int → Int → List Int → Bool → Int → Int → Int → Int → Bool → Option (Int × Int × Int × Int × List Int × Bool)
 | 0, _, _, _, _, _, _, _, _, _, _, _, _, _, _, _, _, _ => none
 | k + 1, x90003000, x90003001, x90003002, x90003003, x90003004, x90003005, x90004000, x90004001, x90004002, x90004003, x90004004, x90004005, x90006000, x90006001, x90006002, x90006003, x90006005 => if x90004003 > x90006003 then (spec_l4Join.j2 k x90003000 x90003001 x90003002 x90003003 x90003004 x90003005 x90004000 x90004001 x90004002 x90004003 x90004004 x90004005 x90006000 x90006001 x90006002 x90004003 x90006005) else (spec_l4Join.j2 k x90003000 x90003001 x90003002 x90003003 x90003004 x90003005 x90004000 x90004001 x90004002 x90004003 x90004004 x90004005 x90006000 x90006001 x90006002 x90006003 x90006005)
def spec_l4Join.j2 : Nat → Int → Int → Int → Int → List Int → Bool → Int → Int → Int → Int → List Int → Bool → Int → Int → Int → Int → Bool → Option (Int × Int × Int × Int × List Int × Bool)
 | 0, _, _, _, _, _, _, _, _, _, _, _, _, _, _, _, _, _ => none
 | k + 1, x90003000, x90003001, x90003002, x90003003, x90003004, x90003005, x90004000, x90004001, x90004002, x90004003, x90004004, x90004005, x90006000, x90006001, x90006002, x90006003, x90006005 => spec_l4Join.l0 k x90003004 (x90003004.length : Int) 0 x90004000 x90004001 x90004002 x90004003 x90004004 x90004005 x90006000 x90006001 x90006002 x90006003 ([] : List Int) x90006005
def spec_l4Join.l0 : Nat → List Int → Int → Int → Int → Int → Int → Int → List Int → Bool → Int → Int → Int → Int → List Int → Bool → Option (Int × Int × Int × Int × List Int × Bool)
 | 0, _, _, _, _, _, _, _, _, _, _, _, _, _, _, _ => none
 | k + 1, x62, x63, x64, x90004000, x90004001, x90004002, x90004003, x90004004, x90004005, x90006000, x90006001, x90006002, x90006003, x90006004, x90006005 => if x64 < x63 then (if 0 ≤ x64 then (if x64 < (x62.length : Int) then (if x64 < (x90004004.length : Int) then (if (wrap64 ((rd x62 x64) + (rd x90004004 x64))) > 1000000000 then (if x90006004.length < 17592186044416 then (spec_l4Join.l0 k x62 x63 (wrap64 (x64 + 1)) x90004000 x90004001 x90004002 x90004003 x90004004 x90004005 x90006000 x90006001 x90006002 x90006003 (x90006004 ++ [1000000000]) true) else (none)) else (if x90006004.length < 17592186044416 then (spec_l4Join.l0 k x62 x63 (wrap64 (x64 + 1)) x90004000 x90004001 x90004002 x90004003 x90004004 x90004005 x90006000 x90006001 x90006002 x90006003 (x90006004 ++ [wrap64 ((rd x62 x64) + (rd x90004004 x64))]) x90006005) else (none))) else (none)) else (none)) else (none)) else (if x90006005 = true then (some (x90006000, 0, x90006002, x90006003, x90006004, x90006005)) else (some (x90006000, x90006001, x90006002, x90006003, x90006004, x90006005)))
def spec_l4Join.j4 : Nat → Int → Int → Int → Int → List Int → Bool → Int → Int → Int → Int → List Int → Bool → Int → Int → Int → Int → Bool → Option (Int × Int × Int × Int × List Int × Bool)
 | 0, _, _, _, _, _, _, _, _, _, _, _, _, _, _, _, _, _ => none
 | k + 1, x90003000, x90003001, x90003002, x90003003, x90003004, x90003005, x90004000, x90004001, x90004002, x90004003, x90004004, x90004005, x90006000, x90006001, x90006002, x90006003, x90006005 => if x90004002 < x90006002 then (spec_l4Join.j5 k x90003000 x90003001 x90003002 x90003003 x90003004 x90003005 x90004000 x90004001 x90004002 x90004003 x90004004 x90004005 x90006000 x90006001 x90004002 x90006003 x90006005) else (spec_l4Join.j5 k x90003000 x90003001 x90003002 x90003003 x90003004 x90003005 x90004000 x90004001 x90004002 x90004003 x90004004 x90004005 x90006000 x90006001 x90006002 x90006003 x90006005)
def spec_l4Join.j5 : Nat → Int → Int → Int → Int → List Int → Bool → Int → Int → Int → Int → List Int → Bool → Int → Int → Int → Int → Bool → Option (Int × Int × Int × Int × List Int × Bool)
 | 0, _, _, _, _, _, _, _, _, _, _, _, _, _, _, _, _, _ => none
 | k + 1, x90003000, x90003001, x90003002, x90003003, x90003004, x90003005, x90004000, x90004001, x90004002, x90004003, x90004004, x90004005, x90006000, x90006001, x90006002, x90006003, x90006005 => if x90004003 > x90006003 then (spec_l4Join.j6 k x90003000 x90003001 x90003002 x90003003 x90003004 x90003005 x90004000 x90004001 x90004002 x90004003 x90004004 x90004005 x90006000 x90006001 x90006002 x90004003 x90006005) else (spec_l4Join.j6 k x90003000 x90003001 x90003002 x90003003 x90003004 x90003005 x90004000 x90004001 x90004002 x90004003 x90004004 x90004005 x90006000 x90006001 x90006002 x90006003 x90006005)
def spec_l4Join.j6 : Nat → Int → Int → Int → Int → List Int → Bool → Int → Int → Int → Int → List Int → Bool → Int → Int → Int → Int → Bool → Option (Int × Int × Int × Int × List Int × Bool)
 | 0, _, _, _, _, _, _, _, _, _, _, _, _, _, _, _, _, _ => none
 | k + 1, x90003000, x90003001, x90003002, x90003003, x90003004, x90003005, x90004000, x90004001, x90004002, x90004003, x90004004, x90004005, x90006000, x90006001, x90006002, x90006003, x90006005 => spec_l4Join.l0 k x90003004 (x90003004.length : Int) 0 x90004000 x90004001 x90004002 x90004003 x90004004 x90004005 x90006000 x90006001 x90006002 x90006003 ([] : List Int) x90006005
end
def spec_l4Join.f (k : Nat) (a0_0 : Int) (a0_1 : Int) (a0_2 : Int) (a0_3 : Int) (l0_4 : List Int) (a0_5 : Bool) (a1_0 : Int) (a1_1 : Int) (a1_2 : Int) (a1_3 : Int) (l1_4 : List Int) (a1_5 : Bool) : Option (Int × Int × Int × Int × List Int × Bool) := if a0_0 = 0 then ((spec_l4Own.f a1_0 a1_1 a1_2 a1_3 l1_4 a1_5).bind fun bt104 => (some (bt104.1, bt104.2.1, bt104.2.2.1, bt104.2.2.2.1, bt104.2.2.2.2.1, bt104.2.2.2.2.2))) else (if a1_0 = 0 then ((spec_l4Own.f a0_0 a0_1 a0_2 a0_3 l0_4 a0_5).bind fun bt112 => (some (bt112.1, bt112.2.1, bt112.2.2.1, bt112.2.2.2.1, bt112.2.2.2.2.1, bt112.2.2.2.2.2))) else (if a0_5 = true then (if (wrap64 (a0_0 + a1_0)) > 1000000000 then (spec_l4Join.j0 k a0_0 a0_1 a0_2 a0_3 l0_4 a0_5 a1_0 a1_1 a1_2 a1_3 l1_4 a1_5 1000000000 (wrap64 (a0_1 + a1_1)) a0_2 a0_3 true) else (spec_l4Join.j0 k a0_0 a0_1 a0_2 a0_3 l0_4 a0_5 a1_0 a1_1 a1_2 a1_3 l1_4 a1_5 (wrap64 (a0_0 + a1_0)) (wrap64 (a0_1 + a1_1)) a0_2 a0_3 true)) else (if (wrap64 (a0_0 + a1_0)) > 1000000000 then (spec_l4Join.j4 k a0_0 a0_1 a0_2 a0_3 l0_4 a0_5 a1_0 a1_1 a1_2 a1_3 l1_4 a1_5 1000000000 (wrap64 (a0_1 + a1_1)) a0_2 a0_3 true) else (spec_l4Join.j4 k a0_0 a0_1 a0_2 a0_3 l0_4 a0_5 a1_0 a1_1 a1_2 a1_3 l1_4 a1_5 (wrap64 (a0_0 + a1_0)) (wrap64 (a0_1 + a1_1)) a0_2 a0_3 a1_5))))
theorem spec_l4Join.mono_l : ∀ k, (∀ y0 y1 y2 y3 y4 y5 y6 y7 y8 y9 y10 y11 y12 y13 y14 y15 y16, LeO (spec_l4Join.j0 k y0 y1 y2 y3 y4 y5 y6 y7 y8 y9 y10 y11 y12 y13 y14 y15 y16) (spec_l4Join.j0 (k + 1) y0 y1 y2 y3 y4 y5 y6 y7 y8 y9 y10 y11 y12 y13 y14 y15 y16)) ∧ (∀ y0 y1 y2 y3 y4 y5 y6 y7 y8 y9 y10 y11 y12 y13 y14 y15 y16, LeO (spec_l4Join.j1 k y0 y1 y2 y3 y4 y5 y6 y7 y8 y9 y10 y11 y12 y13 y14 y15 y16) (spec_l4Join.j1 (k + 1) y0 y1 y2 y3 y4 y5 y6 y7 y8 y9 y10 y11 y12 y13 y14 y15 y16)) ∧ (∀ y0 y1 y2 y3 y4 y5 y6 y7 y8 y9 y10 y11 y12 y13 y14 y15 y16, LeO (spec_l4Join.j2 k y0 y1 y2 y3 y4 y5 y6 y7 y8 y9 y10 y11 y12 y13 y14 y15 y16) (spec_l4Join.j2 (k + 1) y0 y1 y2 y3 y4 y5 y6 y7 y8 y9 y10 y11 y12 y13 y14 y15 y16)) ∧ (∀ y0 y1 y2 y3 y4 y5 y6 y7 y8 y9 y10 y11 y12 y13 y14, LeO (spec_l4Join.l0 k y0 y1 y2 y3 y4 y5 y6 y7 y8 y9 y10 y11 y12 y13 y14) (spec_l4Join.l0 (k + 1) y0 y1 y2 y3 y4 y5 y6 y7 y8 y9 y10 y11 y12 y13 y14)) ∧ (∀ y0 y1 y2 y3 y4 y5 y6 y7 y8 y9 y10 y11 y12 y13 y14 y15 y16, LeO (spec_l4Join.j4 k y0 y1 y2 y3 y4 y5 y6 y7 y8 y9 y10 y11 y12 y13 y14 y15 y16) (spec_l4Join.j4 (k + 1) y0 y1 y2 y3 y4 y5 y6 y7 y8 y9 y10 y11 y12 y13 y14 y15 y16)) ∧ (∀ y0 y1 y2 y3 y4 y5 y6 y7 y8 y9 y10 y11 y12 y13 y14 y15 y16, LeO (spec_l4Join.j5 k y0 y1 y2 y3 y4 y5 y6 y7 y8 y9 y10 y11 y12 y13 y14 y15 y16) (spec_l4Join.j5 (k + 1) y0 y1 y2 y3 y4 y5 y6 y7 y8 y9 y10 y11 y12 y13 y14 y15 y16)) ∧ (∀ y0 y1 y2 y3 y4 y5 y6 y7 y8 y9 y10 y11 y12 y13 y14 y15 y16, LeO (spec_l4Join.j6 k y0 y1 y2 y3 y4 y5 y6 y7 y8 y9 y10 y11 y12 y13 y14 y15 y16) (spec_l4Join.j6 (k + 1) y0 y1 y2 y3 y4 y5 y6 y7 y8 y9 y10 y11 y12 y13 y14 y15 y16))
 | 0 => ⟨fun _ _ _ _ _ _ _ _ _ _ _ _ _ _ _ _ _ r h => by simp [spec_l4Join.j0] at h, fun _ _ _ _ _ _ _ _ _ _ _ _ _ _ _ _ _ r h => by simp [spec_l4Join.j1] at h, fun _ _ _ _ _ _ _ _ _ _ _ _ _ _ _ _ _ r h => by simp [spec_l4Join.j2] at h, fun _ _ _ _ _ _ _ _ _ _ _ _ _ _ _ r h => by simp [spec_l4Join.l0] at h, fun _ _ _ _ _ _ _ _ _ _ _ _ _ _ _ _ _ r h => by simp [spec_l4Join.j4] at h, fun _ _ _ _ _ _ _ _ _ _ _ _ _ _ _ _ _ r h => by simp [spec_l4Join.j5] at h, fun _ _ _ _ _ _ _ _ _ _ _ _ _ _ _ _ _ r h => by simp [spec_l4Join.j6] at h⟩
 | k + 1 => by
  obtain ⟨ih0, ih1, ih2, ih3, ih4, ih5, ih6⟩ := spec_l4Join.mono_l k
  refine ⟨?_, ?_, ?_, ?_, ?_, ?_, ?_⟩
  · intro y0 y1 y2 y3 y4 y5 y6 y7 y8 y9 y10 y11 y12 y13 y14 y15 y16
    unfold spec_l4Join.j0
    exact moZ
  · intro y0 y1 y2 y3 y4 y5 y6 y7 y8 y9 y10 y11 y12 y13 y14 y15 y16
    unfold spec_l4Join.j1
    exact moZ
  · intro y0 y1 y2 y3 y4 y5 y6 y7 y8 y9 y10 y11 y12 y13 y14 y15 y16
    unfold spec_l4Join.j2
    exact moZ
  · intro y0 y1 y2 y3 y4 y5 y6 y7 y8 y9 y10 y11 y12 y13 y14
    unfold spec_l4Join.l0
    exact moZ
  · intro y0 y1 y2 y3 y4 y5 y6 y7 y8 y9 y10 y11 y12 y13 y14 y15 y16
    unfold spec_l4Join.j4
    exact moZ
  · intro y0 y1 y2 y3 y4 y5 y6 y7 y8 y9 y10 y11 y12 y13 y14 y15 y16
    unfold spec_l4Join.j5
    exact moZ
  · intro y0 y1 y2 y3 y4 y5 y6 y7 y8 y9 y10 y11 y12 y13 y14 y15 y16
    unfold spec_l4Join.j6
    exact moZ
theorem spec_l4Join.mono : ∀ a0 a1 a2 a3 a4 a5 a6 a7 a8 a9 a10 a11 k, LeO (spec_l4Join.f k a0 a1 a2 a3 a4 a5 a6 a7 a8 a9 a10 a11) (spec_l4Join.f (k + 1) a0 a1 a2 a3 a4 a5 a6 a7 a8 a9 a10 a11) := by
 intro a0 a1 a2 a3 a4 a5 a6 a7 a8 a9 a10 a11 k
 obtain ⟨ih0, ih1, ih2, ih3, ih4, ih5, ih6⟩ := spec_l4Join.mono_l k
 unfold spec_l4Join.f
 exact moZ
theorem spec_l4Join.calls (k : Nat) (a0_0 : Int) (a0_1 : Int) (a0_2 : Int) (a0_3 : Int) (A0_4 : Option Addr) (c0_4 : Nat) (l0_4 : List Int) (a0_5 : Bool) (a1_0 : Int) (a1_1 : Int) (a1_2 : Int) (a1_3 : Int) (A1_4 : Option Addr) (c1_4 : Nat) (l1_4 : List Int) (a1_5 : Bool) (r1 : Int) (r2 : Int) (r3 : Int) (r4 : Int) (r5 : List Int) (r6 : Bool) (w : World) (hr0_4 : Kd.C (Kd.int .i64) w A0_4 l0_4.length l0_4) (hc0_4 : l0_4.length ≤ c0_4) (hr1_4 : Kd.C (Kd.int .i64) w A1_4 l1_4.length l1_4) (hc1_4 : l1_4.length ≤ c1_4) (h : spec_l4Join.f k a0_0 a0_1 a0_2 a0_3 l0_4 a0_5 a1_0 a1_1 a1_2 a1_3 l1_4 a1_5 = some (r1, r2, r3, r4, r5, r6)) :
 Calls Try.prog 68 #[.agg #[.int .i64 a0_0, .int .i64 a0_1, .int .i64 a0_2, .int .i64 a0_3, .slice A0_4 l0_4.length c0_4, .bool a0_5], .agg #[.int .i64 a1_0, .int .i64 a1_1, .int .i64 a1_2, .int .i64 a1_3, .slice A1_4 l1_4.length c1_4, .bool a1_5]] w fun e w' => ∃ v4_ : Value, e = .returned (.agg #[.int .i64 r1, .int .i64 r2, .int .i64 r3, .int .i64 r4, v4_, .bool r6]) ∧ Kd.R (Kd.int .i64) 3 w' w.heap.size (fun _ => True) v4_ r5 ∧ Below w.heap.size w w' := by
 have hu26 := Try.underlying26
 have HR0_4 := aM hr0_4
 have HC0_4 := aM hc0_4
 clear hr0_4 hc0_4
 have HR1_4 := aM hr1_4
 have HC1_4 := aM hc1_4
 clear hr1_4 hc1_4
 have HB := aM (Below.refl w.heap.size w)
 have H : (if a0_0 = 0 then ((spec_l4Own.f a1_0 a1_1 a1_2 a1_3 l1_4 a1_5).bind fun bt104 => (some (bt104.1, bt104.2.1, bt104.2.2.1, bt104.2.2.2.1, bt104.2.2.2.2.1, bt104.2.2.2.2.2))) else (if a1_0 = 0 then ((spec_l4Own.f a0_0 a0_1 a0_2 a0_3 l0_4 a0_5).bind fun bt112 => (some (bt112.1, bt112.2.1, bt112.2.2.1, bt112.2.2.2.1, bt112.2.2.2.2.1, bt112.2.2.2.2.2))) else (if a0_5 = true then (if (wrap64 (a0_0 + a1_0)) > 1000000000 then (spec_l4Join.j0 k a0_0 a0_1 a0_2 a0_3 l0_4 a0_5 a1_0 a1_1 a1_2 a1_3 l1_4 a1_5 1000000000 (wrap64 (a0_1 + a1_1)) a0_2 a0_3 true) else (spec_l4Join.j0 k a0_0 a0_1 a0_2 a0_3 l0_4 a0_5 a1_0 a1_1 a1_2 a1_3 l1_4 a1_5 (wrap64 (a0_0 + a1_0)) (wrap64 (a0_1 + a1_1)) a0_2 a0_3 true)) else (if (wrap64 (a0_0 + a1_0)) > 1000000000 then (spec_l4Join.j4 k a0_0 a0_1 a0_2 a0_3 l0_4 a0_5 a1_0 a1_1 a1_2 a1_3 l1_4 a1_5 1000000000 (wrap64 (a0_1 + a1_1)) a0_2 a0_3 true) else (spec_l4Join.j4 k a0_0 a0_1 a0_2 a0_3 l0_4 a0_5 a1_0 a1_1 a1_2 a1_3 l1_4 a1_5 (wrap64 (a0_0 + a1_0)) (wrap64 (a0_1 + a1_1)) a0_2 a0_3 a1_5))))) = some (r1, r2, r3, r4, r5, r6) := h
 clear h
 by_cases c3 : a0_0 = 0
 · rw [if_pos c3] at H
   have c3b0 : (a0_0 == 0) = true := beq_iff_eq.mpr c3
   have c3b1 : (a0_0 != 0) = false := bne_eq_false_iff_eq.mpr c3
   clear c3
   obtain ⟨⟨t104, t105, t106, t107, t108, t111⟩, A4, H⟩ := bS H; try dsimp only at H
   simp only [Option.some.injEq, Prod.mk.injEq] at H
   obtain ⟨rfl, rfl, rfl, rfl, rfl, rfl⟩ := H
   go_enter Try.func68, Try.ntmps68
   go_wp2_with (first | ((with_reducible refine gate_dst (N := 2) rfl ?_); refine bX 2 26 #[.int .i64 a0_0, .int .i64 a0_1, .int .i64 a0_2, .int .i64 a0_3, .slice A0_4 l0_4.length c0_4, .bool a0_5] ?_; intro gb90002 hg w5 hbox hb; have _ := aM (below_step hbZ hb); have _ := aM hbox; have _ := szZ hg; have _ := szZ hg; clear HB; rename_i HB BK90002 GW90002 GE90002; clear hb hbox hg) | ((with_reducible refine gate_dst (N := 3) rfl ?_); refine bX 3 26 #[.int .i64 a1_0, .int .i64 a1_1, .int .i64 a1_2, .int .i64 a1_3, .slice A1_4 l1_4.length c1_4, .bool a1_5] ?_; intro gb90003 hg w6 hbox hb; have _ := bB gb90002 hb; have _ := aM (below_step hbZ hb); have _ := aM hbox; have _ := szZ hg; have _ := szZ hg; have ⟨_, _⟩ := nbB gb90002 hg; clear BK90002 HB; rename_i BK90002 HB BK90003 GW90003 GE90003 NB90002_90003 NB90003_90002; clear hb hbox hg) | ((with_reducible refine gate_dst (N := 4) rfl ?_); refine bX 4 26 #[.int .i64 0, .int .i64 0, .int .i64 0, .int .i64 0, .slice none 0 0, .bool false] ?_; intro gb90004 hg w7 hbox hb; have _ := bB gb90002 hb; have _ := bB gb90003 hb; have _ := aM (below_step hbZ hb); have _ := aM hbox; have _ := szZ hg; have _ := szZ hg; have ⟨_, _⟩ := nbB gb90002 hg; have ⟨_, _⟩ := nbB gb90003 hg; clear BK90002 BK90003 HB; rename_i BK90002 BK90003 HB BK90004 GW90004 GE90004 NB90002_90004 NB90004_90002 NB90003_90004 NB90004_90003; clear hb hbox hg; have hnb8 := NB90002_90003.out; have hnc8 := NB90003_90002.out; have hnb9 := NB90002_90004.out; have hnc9 := NB90004_90002.out; have hz10 := cellsZ6 BK90002.out; have hnb11 := NB90003_90004.out; have hnc11 := NB90004_90003.out; have hz12 := cellsZ6 BK90003.out) | ((with_reducible refine gate_callee (f := 67) rfl ?_); refine gL 13 Try.func67 #[.agg #[.int .i64 a1_0, .int .i64 a1_1, .int .i64 a1_2, .int .i64 a1_3, .slice A1_4 l1_4.length c1_4, .bool a1_5]] ?_; (with_reducible refine (spec_l4Own.calls a1_0 a1_1 a1_2 a1_3 _ _ l1_4 a1_5 t104 t105 t106 t107 t108 t111 _ ?side1 ?side2 A4.out).mono ?_); (case side1 => exact (cZ (Kd.C_below HR1_4.out HB.out))); (case side2 => exact HC1_4.out); rintro e w13 ⟨v109, rfl, ho0, hb⟩; refine ⟨_, rfl, ?_⟩; have _ := aM (Kd.R_lower ho0 (below_size hbZ)); have _ := bB gb90002 hb; have _ := bB gb90003 hb; have _ := bB gb90004 hb; have _ := aM (below_step hbZ hb); clear BK90002 BK90003 BK90004 HB; rename_i HO110 BK90002 BK90003 BK90004 HB; (try clear hb); (try clear ho0); have hz14 := cellsZ6 BK90004.out; obtain ⟨Ao15, co15, eo15⟩ := Kd.R_slice HO110.out; subst eo15))
   refine bodyPost_ret (results_cell_row rfl _ _ gb90004 26 #[.int .i64 t104, .int .i64 t105, .int .i64 t106, .int .i64 t107, .slice Ao15 t108.length co15, .bool t111] (0, 0) _ rfl bkZ Try.underlying26 rfl (by kernel_rfl)) rfl ?_
   exact ⟨_, z674d, by (with_reducible repeat (first | apply Kd.R_alloc | apply Kd.R_drewN | apply Kd.R_drew)); exact Kd.R_mono (Kd.R_far (p := ⟨gb90004, 5, none⟩) (Kd.R_far (p := ⟨gb90004, 4, none⟩) (Kd.R_far (p := ⟨gb90004, 3, none⟩) (Kd.R_far (p := ⟨gb90004, 2, none⟩) (Kd.R_far (p := ⟨gb90004, 1, none⟩) (Kd.R_far (p := ⟨gb90004, 0, none⟩) (Kd.R_types HO110.out BK90004.out (by decide)) (fun _ hk => hk.2) (.int .i64 t104)) (fun _ hk => hk.2) (.int .i64 t105)) (fun _ hk => hk.2) (.int .i64 t106)) (fun _ hk => hk.2) (.int .i64 t107)) (fun _ hk => hk.2) (.slice Ao15 t108.length co15)) (fun _ hk => hk.2) (.bool t111)) (fun _ hk => trivial), zcb41⟩
 · rw [if_neg c3] at H
   have c3b0 := eqN c3
   by_cases c16 : a1_0 = 0
   · rw [if_pos c16] at H
     have c16b0 : (a1_0 == 0) = true := beq_iff_eq.mpr c16
     have c16b1 : (a1_0 != 0) = false := bne_eq_false_iff_eq.mpr c16
     clear c16
     obtain ⟨⟨t112, t113, t114, t115, t116, t119⟩, A17, H⟩ := bS H; try dsimp only at H
     simp only [Option.some.injEq, Prod.mk.injEq] at H
     obtain ⟨rfl, rfl, rfl, rfl, rfl, rfl⟩ := H
     go_enter Try.func68, Try.ntmps68
     go_wp2_with (first | ((with_reducible refine gate_dst (N := 2) rfl ?_); refine bX 2 26 #[.int .i64 a0_0, .int .i64 a0_1, .int .i64 a0_2, .int .i64 a0_3, .slice A0_4 l0_4.length c0_4, .bool a0_5] ?_; intro gb90002 hg w18 hbox hb; have _ := aM (below_step hbZ hb); have _ := aM hbox; have _ := szZ hg; have _ := szZ hg; clear HB; rename_i HB BK90002 GW90002 GE90002; clear hb hbox hg) | ((with_reducible refine gate_dst (N := 3) rfl ?_); refine bX 3 26 #[.int .i64 a1_0, .int .i64 a1_1, .int .i64 a1_2, .int .i64 a1_3, .slice A1_4 l1_4.length c1_4, .bool a1_5] ?_; intro gb90003 hg w19 hbox hb; have _ := bB gb90002 hb; have _ := aM (below_step hbZ hb); have _ := aM hbox; have _ := szZ hg; have _ := szZ hg; have ⟨_, _⟩ := nbB gb90002 hg; clear BK90002 HB; rename_i BK90002 HB BK90003 GW90003 GE90003 NB90002_90003 NB90003_90002; clear hb hbox hg) | ((with_reducible refine gate_dst (N := 4) rfl ?_); refine bX 4 26 #[.int .i64 0, .int .i64 0, .int .i64 0, .int .i64 0, .slice none 0 0, .bool false] ?_; intro gb90004 hg w20 hbox hb; have _ := bB gb90002 hb; have _ := bB gb90003 hb; have _ := aM (below_step hbZ hb); have _ := aM hbox; have _ := szZ hg; have _ := szZ hg; have ⟨_, _⟩ := nbB gb90002 hg; have ⟨_, _⟩ := nbB gb90003 hg; clear BK90002 BK90003 HB; rename_i BK90002 BK90003 HB BK90004 GW90004 GE90004 NB90002_90004 NB90004_90002 NB90003_90004 NB90004_90003; clear hb hbox hg; have hnb21 := NB90002_90003.out; have hnc21 := NB90003_90002.out; have hnb22 := NB90002_90004.out; have hnc22 := NB90004_90002.out; have hz23 := cellsZ6 BK90002.out; have hnb24 := NB90003_90004.out; have hnc24 := NB90004_90003.out; have hz25 := cellsZ6 BK90003.out) | ((with_reducible refine gate_callee (f := 67) rfl ?_); refine gL 18 Try.func67 #[.agg #[.int .i64 a0_0, .int .i64 a0_1, .int .i64 a0_2, .int .i64 a0_3, .slice A0_4 l0_4.length c0_4, .bool a0_5]] ?_; (with_reducible refine (spec_l4Own.calls a0_0 a0_1 a0_2 a0_3 _ _ l0_4 a0_5 t112 t113 t114 t115 t116 t119 _ ?side1 ?side2 A17.out).mono ?_); (case side1 => exact (cZ (Kd.C_below HR0_4.out HB.out))); (case side2 => exact HC0_4.out); rintro e w26 ⟨v117, rfl, ho0, hb⟩; refine ⟨_, rfl, ?_⟩; have _ := aM (Kd.R_lower ho0 (below_size hbZ)); have _ := bB gb90002 hb; have _ := bB gb90003 hb; have _ := bB gb90004 hb; have _ := aM (below_step hbZ hb); clear BK90002 BK90003 BK90004 HB; rename_i HO118 BK90002 BK90003 BK90004 HB; (try clear hb); (try clear ho0); have hz27 := cellsZ6 BK90004.out; obtain ⟨Ao28, co28, eo28⟩ := Kd.R_slice HO118.out; subst eo28))
     refine bodyPost_ret (results_cell_row rfl _ _ gb90004 26 #[.int .i64 t112, .int .i64 t113, .int .i64 t114, .int .i64 t115, .slice Ao28 t116.length co28, .bool t119] (0, 0) _ rfl bkZ Try.underlying26 rfl (by kernel_rfl)) rfl ?_
     exact ⟨_, z674d, by (with_reducible repeat (first | apply Kd.R_alloc | apply Kd.R_drewN | apply Kd.R_drew)); exact Kd.R_mono (Kd.R_far (p := ⟨gb90004, 5, none⟩) (Kd.R_far (p := ⟨gb90004, 4, none⟩) (Kd.R_far (p := ⟨gb90004, 3, none⟩) (Kd.R_far (p := ⟨gb90004, 2, none⟩) (Kd.R_far (p := ⟨gb90004, 1, none⟩) (Kd.R_far (p := ⟨gb90004, 0, none⟩) (Kd.R_types HO118.out BK90004.out (by decide)) (fun _ hk => hk.2) (.int .i64 t112)) (fun _ hk => hk.2) (.int .i64 t113)) (fun _ hk => hk.2) (.int .i64 t114)) (fun _ hk => hk.2) (.int .i64 t115)) (fun _ hk => hk.2) (.slice Ao28 t116.length co28)) (fun _ hk => hk.2) (.bool t119)) (fun _ hk => trivial), zcb41⟩
   · rw [if_neg c16] at H
     have c16b0 := eqN c16
     by_cases c29 : a0_5 = true
     · subst c29
       rw [if_pos rfl] at H
       have HC30 := aM H
       clear H
       go_enter Try.func68, Try.ntmps68
       go_upto_if 42 with (first | ((with_reducible refine gate_dst (N := 2) rfl ?_); refine bX 2 26 #[.int .i64 a0_0, .int .i64 a0_1, .int .i64 a0_2, .int .i64 a0_3, .slice A0_4 l0_4.length c0_4, .bool true] ?_; intro gb90002 hg w31 hbox hb; have _ := aM (below_step hbZ hb); have _ := aM hbox; have _ := szZ hg; have _ := szZ hg; clear HB; rename_i HB BK90002 GW90002 GE90002; clear hb hbox hg) | ((with_reducible refine gate_dst (N := 3) rfl ?_); refine bX 3 26 #[.int .i64 a1_0, .int .i64 a1_1, .int .i64 a1_2, .int .i64 a1_3, .slice A1_4 l1_4.length c1_4, .bool a1_5] ?_; intro gb90003 hg w32 hbox hb; have _ := bB gb90002 hb; have _ := aM (below_step hbZ hb); have _ := aM hbox; have _ := szZ hg; have _ := szZ hg; have ⟨_, _⟩ := nbB gb90002 hg; clear BK90002 HB; rename_i BK90002 HB BK90003 GW90003 GE90003 NB90002_90003 NB90003_90002; clear hb hbox hg) | ((with_reducible refine gate_dst (N := 4) rfl ?_); refine bX 4 26 #[.int .i64 0, .int .i64 0, .int .i64 0, .int .i64 0, .slice none 0 0, .bool false] ?_; intro gb90004 hg w33 hbox hb; have _ := bB gb90002 hb; have _ := bB gb90003 hb; have _ := aM (below_step hbZ hb); have _ := aM hbox; have _ := szZ hg; have _ := szZ hg; have ⟨_, _⟩ := nbB gb90002 hg; have ⟨_, _⟩ := nbB gb90003 hg; clear BK90002 BK90003 HB; rename_i BK90002 BK90003 HB BK90004 GW90004 GE90004 NB90002_90004 NB90004_90002 NB90003_90004 NB90004_90003; clear hb hbox hg; have hnb34 := NB90002_90003.out; have hnc34 := NB90003_90002.out; have hnb35 := NB90002_90004.out; have hnc35 := NB90004_90002.out; have hz36 := cellsZ6 BK90002.out; have hnb37 := NB90003_90004.out; have hnc37 := NB90004_90003.out; have hz38 := cellsZ6 BK90003.out) | ((with_reducible refine gate_dst (N := 5) rfl ?_); refine bX 5 26 #[.int .i64 0, .int .i64 0, .int .i64 0, .int .i64 0, .slice none 0 0, .bool false] ?_; intro gb90005 hg w39 hbox hb; have _ := bB gb90002 hb; have _ := bB gb90003 hb; have _ := bB gb90004 hb; have _ := aM (below_step hbZ hb); have _ := aM hbox; have _ := szZ hg; have _ := szZ hg; have ⟨_, _⟩ := nbB gb90002 hg; have ⟨_, _⟩ := nbB gb90003 hg; have ⟨_, _⟩ := nbB gb90004 hg; clear BK90002 BK90003 BK90004 HB; rename_i BK90002 BK90003 BK90004 HB BK90005 GW90005 GE90005 NB90002_90005 NB90005_90002 NB90003_90005 NB90005_90003 NB90004_90005 NB90005_90004; clear hb hbox hg; have hnb40 := NB90005_90002.out; have hnc40 := NB90002_90005.out; have hnb41 := NB90005_90003.out; have hnc41 := NB90003_90005.out; have hnb42 := NB90005_90004.out; have hnc42 := NB90004_90005.out; have hz43 := cellsZ6 BK90005.out))
       (try simp only [Act.put, List.setIfInBounds_toArray, List.set_cons_zero, List.set_cons_succ])
       go_cut [] (fun wc => ∃ (kq : Nat) (x90006000_29 : Int) (x90006005_29 : Bool), Aside0 (spec_l4Join.j0 kq a0_0 a0_1 a0_2 a0_3 l0_4 true a1_0 a1_1 a1_2 a1_3 l1_4 a1_5 x90006000_29 (wrap64 (a0_1 + a1_1)) a0_2 a0_3 x90006005_29 = some (r1, r2, r3, r4, r5, r6)) ∧ Aside0 (kq ≤ k) ∧ Aside0 (wc.heap[gb90002]? = some (.cells #[.int .i64 a0_0, .int .i64 a0_1, .int .i64 a0_2, .int .i64 a0_3, (.slice A0_4 l0_4.length c0_4), .bool true] 26 (0, 0))) ∧ Aside0 (wc.heap[gb90003]? = some (.cells #[.int .i64 a1_0, .int .i64 a1_1, .int .i64 a1_2, .int .i64 a1_3, (.slice A1_4 l1_4.length c1_4), .bool a1_5] 26 (0, 0))) ∧ Aside0 (wc.heap[gb90004]? = some (.cells #[.int .i64 0, .int .i64 0, .int .i64 0, .int .i64 0, (.slice none 0 0), .bool false] 26 (0, 0))) ∧ Aside0 (wc.heap[gb90005]? = some (.cells #[.int .i64 x90006000_29, .int .i64 (wrap64 (a0_1 + a1_1)), .int .i64 a0_2, .int .i64 a0_3, (.slice none 0 0), .bool x90006005_29] 26 (0, 0))) ∧ Aside0 (Below w.heap.size w wc))
       case first =>
        have H := HC30.out
        clear HC30
        by_cases c44 : (wrap64 (a0_0 + a1_0)) > 1000000000
        · rw [if_pos c44] at H
          have c44b0 := dL c44
          clear c44
          (first | rw [c44b0] | (simp only [i64_w, i32_w]; rw [c44b0]) | skip)
          have H' := aM H
          clear H
          have hnb45 := NB90005_90002.out
          have hnc45 := NB90002_90005.out
          have hnb46 := NB90005_90003.out
          have hnc46 := NB90003_90005.out
          have hnb47 := NB90005_90004.out
          have hnc47 := NB90004_90005.out
          have hz48 := cellsZ6 BK90005.out
          go_wp2
          go_meet
          case rel => exact ⟨_, (1000000000), (true), H', ⟨zb79b⟩, ⟨bkZ⟩, ⟨bkZ⟩, ⟨bkZ⟩, ⟨bkZ⟩, ⟨zcb41⟩⟩
        · rw [if_neg c44] at H
          have c44b0 := nL c44
          clear c44
          (first | rw [c44b0] | (simp only [i64_w, i32_w]; rw [c44b0]) | skip)
          have H' := aM H
          clear H
          go_wp2
          go_meet
          case rel => exact ⟨_, (wrap64 (a0_0 + a1_0)), (true), H', ⟨zb79b⟩, ⟨bkZ⟩, ⟨bkZ⟩, ⟨bkZ⟩, ⟨bkZ⟩, ⟨zcb41⟩⟩
       case rest =>
        clear HC30
        (try clear c1); (try clear c3); (try clear c3b0); (try clear c16); (try clear c16b0); (try clear c29); (try clear hz36); (try clear hz38); (try clear hz43)
        obtain ⟨kq, x90006000_29, x90006005_29, HA, HJ29, BK90002, BK90003, BK90004, BK90005, HB⟩ := hcut
        cases kq with
        | zero => exact absurd HA.out (by simp [spec_l4Join.j0])
        | succ kj29 =>
         have H := HA.out
         clear HA
         simp only [spec_l4Join.j0] at H
         have HC49 := aM H
         clear H
         have hnb50 := NB90003_90002.out
         have hnc50 := NB90002_90003.out
         have hnb51 := NB90003_90004.out
         have hnc51 := NB90004_90003.out
         have hnb52 := NB90003_90005.out
         have hnc52 := NB90005_90003.out
         have hz53 := cellsZ6 BK90003.out
         have hnb54 := NB90005_90002.out
         have hnc54 := NB90002_90005.out
         have hnb55 := NB90005_90004.out
         have hnc55 := NB90004_90005.out
         have hz56 := cellsZ6 BK90005.out
         go_upto_if 49 with (fail)
         go_cut [] (fun wc => ∃ (kq : Nat) (x90006002_48 : Int), Aside0 (spec_l4Join.j1 kq a0_0 a0_1 a0_2 a0_3 l0_4 true a1_0 a1_1 a1_2 a1_3 l1_4 a1_5 x90006000_29 (wrap64 (a0_1 + a1_1)) x90006002_48 a0_3 x90006005_29 = some (r1, r2, r3, r4, r5, r6)) ∧ Aside0 (kq ≤ kj29) ∧ Aside0 (wc.heap[gb90002]? = some (.cells #[.int .i64 a0_0, .int .i64 a0_1, .int .i64 a0_2, .int .i64 a0_3, (.slice A0_4 l0_4.length c0_4), .bool true] 26 (0, 0))) ∧ Aside0 (wc.heap[gb90003]? = some (.cells #[.int .i64 a1_0, .int .i64 a1_1, .int .i64 a1_2, .int .i64 a1_3, (.slice A1_4 l1_4.length c1_4), .bool a1_5] 26 (0, 0))) ∧ Aside0 (wc.heap[gb90004]? = some (.cells #[.int .i64 0, .int .i64 0, .int .i64 0, .int .i64 0, (.slice none 0 0), .bool false] 26 (0, 0))) ∧ Aside0 (wc.heap[gb90005]? = some (.cells #[.int .i64 x90006000_29, .int .i64 (wrap64 (a0_1 + a1_1)), .int .i64 x90006002_48, .int .i64 a0_3, (.slice none 0 0), .bool x90006005_29] 26 (0, 0))) ∧ Aside0 (Below w.heap.size w wc))
         case first =>
          have H := HC49.out
          clear HC49
          by_cases c57 : a1_2 < a0_2
          · rw [if_pos c57] at H
            have c57b0 := dL c57
            clear c57
            (first | rw [c57b0] | (simp only [i64_w, i32_w]; rw [c57b0]) | skip)
            have H' := aM H
            clear H
            have hz61 := cellsZ6 BK90003.out
            have hz64 := cellsZ6 BK90005.out
            go_wp2
            go_meet
            case rel => exact ⟨_, (a1_2), H', ⟨by have := HJ29.out; first | omega | exact Nat.le_refl _⟩, ⟨bkZ⟩, ⟨bkZ⟩, ⟨bkZ⟩, ⟨bkZ⟩, ⟨zcb41⟩⟩
          · rw [if_neg c57] at H
            have c57b0 := nL c57
            clear c57
            (first | rw [c57b0] | (simp only [i64_w, i32_w]; rw [c57b0]) | skip)
            have H' := aM H
            clear H
            go_wp2
            go_meet
            case rel => exact ⟨_, (a0_2), H', ⟨by have := HJ29.out; first | omega | exact Nat.le_refl _⟩, ⟨bkZ⟩, ⟨bkZ⟩, ⟨bkZ⟩, ⟨bkZ⟩, ⟨zcb41⟩⟩
         case rest =>
          clear HC49
          (try clear hz53); (try clear hz56)
          obtain ⟨kq, x90006002_48, HA, HJ48, BK90002, BK90003, BK90004, BK90005, HB⟩ := hcut
          cases kq with
          | zero => exact absurd HA.out (by simp [spec_l4Join.j1])
          | succ kj48 =>
           have H := HA.out
           clear HA
           simp only [spec_l4Join.j1] at H
           have HC65 := aM H
           clear H
           have hz69 := cellsZ6 BK90003.out
           have hz72 := cellsZ6 BK90005.out
           go_upto_if 57 with (fail)
           go_cut [] (fun wc => ∃ (kq : Nat) (x90006003_64 : Int), Aside0 (spec_l4Join.j2 kq a0_0 a0_1 a0_2 a0_3 l0_4 true a1_0 a1_1 a1_2 a1_3 l1_4 a1_5 x90006000_29 (wrap64 (a0_1 + a1_1)) x90006002_48 x90006003_64 x90006005_29 = some (r1, r2, r3, r4, r5, r6)) ∧ Aside0 (kq ≤ kj48) ∧ Aside0 (wc.heap[gb90002]? = some (.cells #[.int .i64 a0_0, .int .i64 a0_1, .int .i64 a0_2, .int .i64 a0_3, (.slice A0_4 l0_4.length c0_4), .bool true] 26 (0, 0))) ∧ Aside0 (wc.heap[gb90003]? = some (.cells #[.int .i64 a1_0, .int .i64 a1_1, .int .i64 a1_2, .int .i64 a1_3, (.slice A1_4 l1_4.length c1_4), .bool a1_5] 26 (0, 0))) ∧ Aside0 (wc.heap[gb90004]? = some (.cells #[.int .i64 0, .int .i64 0, .int .i64 0, .int .i64 0, (.slice none 0 0), .bool false] 26 (0, 0))) ∧ Aside0 (wc.heap[gb90005]? = some (.cells #[.int .i64 x90006000_29, .int .i64 (wrap64 (a0_1 + a1_1)), .int .i64 x90006002_48, .int .i64 x90006003_64, (.slice none 0 0), .bool x90006005_29] 26 (0, 0))) ∧ Aside0 (Below w.heap.size w wc))
           case first =>
            have H := HC65.out
            clear HC65
            by_cases c73 : a1_3 > a0_3
            · rw [if_pos c73] at H
              have c73b0 := dL c73
              clear c73
              (first | rw [c73b0] | (simp only [i64_w, i32_w]; rw [c73b0]) | skip)
              have H' := aM H
              clear H
              have hz77 := cellsZ6 BK90003.out
              have hz80 := cellsZ6 BK90005.out
              go_wp2
              go_meet
              case rel => exact ⟨_, (a1_3), H', ⟨by have := HJ29.out; have := HJ48.out; first | omega | exact Nat.le_refl _⟩, ⟨bkZ⟩, ⟨bkZ⟩, ⟨bkZ⟩, ⟨bkZ⟩, ⟨zcb41⟩⟩
            · rw [if_neg c73] at H
              have c73b0 := nL c73
              clear c73
              (first | rw [c73b0] | (simp only [i64_w, i32_w]; rw [c73b0]) | skip)
              have H' := aM H
              clear H
              go_wp2
              go_meet
              case rel => exact ⟨_, (a0_3), H', ⟨by have := HJ29.out; have := HJ48.out; first | omega | exact Nat.le_refl _⟩, ⟨bkZ⟩, ⟨bkZ⟩, ⟨bkZ⟩, ⟨bkZ⟩, ⟨zcb41⟩⟩
           case rest =>
            clear HC65
            (try clear hz69); (try clear hz72)
            obtain ⟨kq, x90006003_64, HA, HJ64, BK90002, BK90003, BK90004, BK90005, HB⟩ := hcut
            cases kq with
            | zero => exact absurd HA.out (by simp [spec_l4Join.j2])
            | succ kj64 =>
             have H := HA.out
             clear HA
             simp only [spec_l4Join.j2] at H
             have H' := aM H
             clear H
             have hnb82 := NB90002_90004.out
             have hnc82 := NB90004_90002.out
             have hz84 := cellsZ6 BK90002.out
             go_wp2
             go_loopg [64] kj64 (fun kq v64 w' => ∃ (x64_4 : Int) (x90006004_4 : List Int) (x90006005_4 : Bool) (u90006004 : Value), v64 = .int .i64 x64_4 ∧ Aside0 (spec_l4Join.l0 kq l0_4 (l0_4.length : Int) x64_4 a1_0 a1_1 a1_2 a1_3 l1_4 a1_5 x90006000_29 (wrap64 (a0_1 + a1_1)) x90006002_48 x90006003_64 x90006004_4 x90006005_4 = some (r1, r2, r3, r4, r5, r6)) ∧ Aside0 (kq ≤ kj64) ∧ Aside0 (Kd.R (Kd.int .i64) 3 w' w.heap.size (fun _ => True) u90006004 x90006004_4) ∧ Aside0 (w'.heap[gb90002]? = some (.cells #[.int .i64 a0_0, .int .i64 a0_1, .int .i64 a0_2, .int .i64 a0_3, (.slice A0_4 l0_4.length c0_4), .bool true] 26 (0, 0))) ∧ Aside0 (w'.heap[gb90003]? = some (.cells #[.int .i64 a1_0, .int .i64 a1_1, .int .i64 a1_2, .int .i64 a1_3, (.slice A1_4 l1_4.length c1_4), .bool a1_5] 26 (0, 0))) ∧ Aside0 (w'.heap[gb90004]? = some (.cells #[.int .i64 0, .int .i64 0, .int .i64 0, .int .i64 0, (.slice none 0 0), .bool false] 26 (0, 0))) ∧ Aside0 (w'.heap[gb90005]? = some (.cells #[.int .i64 x90006000_29, .int .i64 (wrap64 (a0_1 + a1_1)), .int .i64 x90006002_48, .int .i64 x90006003_64, u90006004, .bool x90006005_4] 26 (0, 0))) ∧ Aside0 (Below w.heap.size w w'))
             case atStart => exact ⟨(0), (([] : List Int)), (x90006005_29), (.slice none 0 0), z4458, H', ⟨Nat.le_refl _⟩, ⟨z02fa⟩, ⟨bkZ⟩, ⟨bkZ⟩, ⟨bkZ⟩, ⟨bkZ⟩, ⟨zcb41⟩⟩
             case round =>
              clear H'
              (try clear hz84)
              obtain ⟨x64_4, x90006004_4, x90006005_4, u90006004, rfl, HA, HK4, HO_90006004, BK90002, BK90003, BK90004, BK90005, HB⟩ := hrel
              cases gk with
              | zero => exact absurd HA.out (by simp [spec_l4Join.l0])
              | succ k4 =>
               have H := HA.out
               clear HA
               simp only [spec_l4Join.l0] at H
               by_cases c85 : x64_4 < (l0_4.length : Int)
               · rw [if_pos c85] at H
                 have c85b0 := dL c85
                 clear c85
                 obtain ⟨c86b0, H⟩ := sE H
                 obtain ⟨c87b0, H⟩ := sL H
                 obtain ⟨c88b0, H⟩ := sL H
                 by_cases c89 : (wrap64 ((rd l0_4 x64_4) + (rd l1_4 x64_4))) > 1000000000
                 · rw [if_pos c89] at H
                   have c89b0 := dL c89
                   clear c89
                   obtain ⟨LMc90, H⟩ := sM H
                   obtain ⟨y123, hy123⟩ : ∃ y_ : List Int, y_ = (x90006004_4 ++ [1000000000]) := ⟨_, rfl⟩
                   first | (replace H := bindS H; rw [← hy123] at H; try dsimp only at H) | rw [← hy123] at H
                   have Ny123 := aM hy123
                   clear hy123
                   have H' := aM H
                   clear H
                   have p121 : 0 ≤ (x64_4 : Int) := of_decide_eq_true z1200
                   have q121 : x64_4 < (l0_4.length : Int) := of_decide_eq_true z1200
                   obtain ⟨ad121, e121, hx121_0⟩ := Kd.at_int HR0_4.out x64_4 p121 q121
                   cases e121
                   replace hx121_0 := (HB.out.cell (World.block_lt_of_cell? w _ hx121_0)).trans hx121_0
                   replace p121 := eq_true p121
                   replace q121 := eq_true q121
                   have hz94 := cellsZ6 BK90003.out
                   have p122 : 0 ≤ (x64_4 : Int) := of_decide_eq_true z1200
                   have q122 : x64_4 < (l1_4.length : Int) := of_decide_eq_true z1200
                   obtain ⟨ad122, e122, hx122_0⟩ := Kd.at_int HR1_4.out x64_4 p122 q122
                   cases e122
                   replace hx122_0 := (HB.out.cell (World.block_lt_of_cell? w _ hx122_0)).trans hx122_0
                   replace p122 := eq_true p122
                   replace q122 := eq_true q122
                   have hz97 := cellsZ6 BK90005.out
                   go_wp2_with (first | ((with_reducible refine gate_builtin (b := .append) (xs := #[.tmp 80, .tmp 82]) rfl ?_); at_builtin; refine Kd.R_append (Kd.int .i64) (w0 := w) w.heap.size rfl (.tmp 80) (.tmp 82) 24 3 (.int .i64 0) 8 rfl Try.underlying24 info3 rfl (by decide) (by omega) u90006004 x90006004_4 1000000000 [.int .i64 1000000000] (fun _ => True) (fun _ => False) rfl (by first | (go_simp; done) | (go_simp; rfl)) ?aP (fun _ hk => hk.elim) ?aF ?aO ?aB ?aS ?aL ?_; (case aP => exact rfl); (case aB => exact hbZ); (case aF => exact (fun _ _ => trivial)); (case aO => exact (by (with_reducible repeat (first | apply Kd.R_alloc | apply Kd.R_drewN | apply Kd.R_drew)); exact Kd.R_mono (Kd.R_far (p := ⟨gb90005, 5, none⟩) (Kd.R_types HO_90006004.out BK90005.out (by decide)) (fun _ hk => hk.2) (.bool true)) (fun _ hk => trivial))); (case aS => exact (below_size hbZ)); (case aL => have := LMc90.out; omega); intro v124 w98 ho hb hg hat; rw [← Ny123.out] at ho; have _ := aM (blk_grown (g := gb90002) bkZ hg (Kd.R_ne HO_90006004.out BK90002.out (by decide))); have _ := aM (blk_grown (g := gb90003) bkZ hg (Kd.R_ne HO_90006004.out BK90003.out (by decide))); have _ := aM (blk_grown (g := gb90004) bkZ hg (Kd.R_ne HO_90006004.out BK90004.out (by decide))); have _ := aM (blk_grown (g := gb90005) (o := .cells #[.int .i64 x90006000_29, .int .i64 (wrap64 (a0_1 + a1_1)), .int .i64 x90006002_48, .int .i64 x90006003_64, u90006004, .bool true] 26 (0, 0)) bkZ hg (Kd.R_ne HO_90006004.out BK90005.out (by decide))); have _ := aM hb; have _ := aM ho; clear BK90002 BK90003 BK90004 BK90005 HB HO_90006004; rename_i BK90002 BK90003 BK90004 BK90005 HB HO125; clear ho hb hg hat; obtain ⟨Ao99, co99, eo99⟩ := Kd.R_slice HO125.out; subst eo99; have hz100 := cellsZ6 BK90005.out))
                   go_roundg k4
                   case measure => have := HJ29.out; have := HJ48.out; have := HJ64.out; have := HK4.out; omega
                   case rel => exact ⟨(wrap64 (x64_4 + 1)), (y123), (true), (.slice Ao99 y123.length co99), z4458, H', ⟨by have := HJ29.out; have := HJ48.out; have := HJ64.out; have := HK4.out; omega⟩, ⟨by (with_reducible repeat (first | apply Kd.R_alloc | apply Kd.R_drewN | apply Kd.R_drew)); exact Kd.R_mono (Kd.R_far (p := ⟨gb90005, 4, none⟩) (Kd.R_types HO125.out BK90005.out (by decide)) (fun _ hk => hk.2) (.slice Ao99 y123.length co99)) (fun _ hk => trivial)⟩, ⟨bkZ⟩, ⟨bkZ⟩, ⟨bkZ⟩, ⟨bkZ⟩, ⟨zcb41⟩⟩
                 · rw [if_neg c89] at H
                   have c89b0 := nL c89
                   clear c89
                   obtain ⟨LMc101, H⟩ := sM H
                   obtain ⟨y126, hy126⟩ : ∃ y_ : List Int, y_ = (x90006004_4 ++ [wrap64 ((rd l0_4 x64_4) + (rd l1_4 x64_4))]) := ⟨_, rfl⟩
                   first | (replace H := bindS H; rw [← hy126] at H; try dsimp only at H) | rw [← hy126] at H
                   have Ny126 := aM hy126
                   clear hy126
                   have H' := aM H
                   clear H
                   have p121 : 0 ≤ (x64_4 : Int) := of_decide_eq_true z1200
                   have q121 : x64_4 < (l0_4.length : Int) := of_decide_eq_true z1200
                   obtain ⟨ad121, e121, hx121_0⟩ := Kd.at_int HR0_4.out x64_4 p121 q121
                   cases e121
                   replace hx121_0 := (HB.out.cell (World.block_lt_of_cell? w _ hx121_0)).trans hx121_0
                   replace p121 := eq_true p121
                   replace q121 := eq_true q121
                   have hz105 := cellsZ6 BK90003.out
                   have p122 : 0 ≤ (x64_4 : Int) := of_decide_eq_true z1200
                   have q122 : x64_4 < (l1_4.length : Int) := of_decide_eq_true z1200
                   obtain ⟨ad122, e122, hx122_0⟩ := Kd.at_int HR1_4.out x64_4 p122 q122
                   cases e122
                   replace hx122_0 := (HB.out.cell (World.block_lt_of_cell? w _ hx122_0)).trans hx122_0
                   replace p122 := eq_true p122
                   replace q122 := eq_true q122
                   have hz108 := cellsZ6 BK90005.out
                   go_wp2_with (first | ((with_reducible refine gate_builtin (b := .append) (xs := #[.tmp 80, .tmp 82]) rfl ?_); at_builtin; refine Kd.R_append (Kd.int .i64) (w0 := w) w.heap.size rfl (.tmp 80) (.tmp 82) 24 3 (.int .i64 0) 8 rfl Try.underlying24 info3 rfl (by decide) (by omega) u90006004 x90006004_4 (wrap64 ((rd l0_4 x64_4) + (rd l1_4 x64_4))) [.int .i64 (wrap64 ((rd l0_4 x64_4) + (rd l1_4 x64_4)))] (fun _ => True) (fun _ => False) rfl rfl ?aP (fun _ hk => hk.elim) ?aF ?aO ?aB ?aS ?aL ?_; (case aP => exact rfl); (case aB => exact hbZ); (case aF => exact (fun _ _ => trivial)); (case aO => exact (rZ HO_90006004.out)); (case aS => exact (below_size hbZ)); (case aL => have := LMc101.out; omega); intro v127 w109 ho hb hg hat; rw [← Ny126.out] at ho; have _ := aM (blk_grown (g := gb90002) bkZ hg (Kd.R_ne HO_90006004.out BK90002.out (by decide))); have _ := aM (blk_grown (g := gb90003) bkZ hg (Kd.R_ne HO_90006004.out BK90003.out (by decide))); have _ := aM (blk_grown (g := gb90004) bkZ hg (Kd.R_ne HO_90006004.out BK90004.out (by decide))); have _ := aM (blk_grown (g := gb90005) bkZ hg (Kd.R_ne HO_90006004.out BK90005.out (by decide))); have _ := aM hb; have _ := aM ho; clear BK90002 BK90003 BK90004 BK90005 HB HO_90006004; rename_i BK90002 BK90003 BK90004 BK90005 HB HO128; clear ho hb hg hat; obtain ⟨Ao110, co110, eo110⟩ := Kd.R_slice HO128.out; subst eo110; have hz111 := cellsZ6 BK90005.out))
                   go_roundg k4
                   case measure => have := HJ29.out; have := HJ48.out; have := HJ64.out; have := HK4.out; omega
                   case rel => exact ⟨(wrap64 (x64_4 + 1)), (y126), (x90006005_4), (.slice Ao110 y126.length co110), z4458, H', ⟨by have := HJ29.out; have := HJ48.out; have := HJ64.out; have := HK4.out; omega⟩, ⟨by (with_reducible repeat (first | apply Kd.R_alloc | apply Kd.R_drewN | apply Kd.R_drew)); exact Kd.R_mono (Kd.R_far (p := ⟨gb90005, 4, none⟩) (Kd.R_types HO128.out BK90005.out (by decide)) (fun _ hk => hk.2) (.slice Ao110 y126.length co110)) (fun _ hk => trivial)⟩, ⟨bkZ⟩, ⟨bkZ⟩, ⟨bkZ⟩, ⟨bkZ⟩, ⟨zcb41⟩⟩
               · rw [if_neg c85] at H
                 have c85b0 := nL c85
                 clear c85
                 by_cases c112 : x90006005_4 = true
                 · subst c112
                   rw [if_pos rfl] at H
                   simp only [Option.some.injEq, Prod.mk.injEq] at H
                   obtain ⟨rfl, rfl, rfl, rfl, rfl, rfl⟩ := H
                   have hz116 := cellsZ6 BK90005.out
                   have hz119 := cellsZ6 BK90004.out
                   obtain ⟨Ao120, co120, eo120⟩ := Kd.R_slice HO_90006004.out
                   subst eo120
                   go_wp2
                   refine bodyPost_ret (results_cell_row rfl _ _ gb90004 26 #[.int .i64 x90006000_29, .int .i64 0, .int .i64 x90006002_48, .int .i64 x90006003_64, .slice Ao120 x90006004_4.length co120, .bool true] (0, 0) _ rfl bkZ Try.underlying26 rfl (by kernel_rfl)) rfl ?_
                   exact ⟨_, z674d, by (with_reducible repeat (first | apply Kd.R_alloc | apply Kd.R_drewN | apply Kd.R_drew)); exact Kd.R_mono (Kd.R_far (p := ⟨gb90004, 5, none⟩) (Kd.R_far (p := ⟨gb90004, 4, none⟩) (Kd.R_far (p := ⟨gb90004, 3, none⟩) (Kd.R_far (p := ⟨gb90004, 2, none⟩) (Kd.R_far (p := ⟨gb90004, 1, none⟩) (Kd.R_far (p := ⟨gb90004, 0, none⟩) (Kd.R_far (p := ⟨gb90005, 1, none⟩) (Kd.R_types (Kd.R_types HO_90006004.out BK90005.out (by decide)) BK90004.out (by decide)) (fun _ hk => hk.1.2) (.int .i64 0)) (fun _ hk => hk.2) (.int .i64 x90006000_29)) (fun _ hk => hk.2) (.int .i64 0)) (fun _ hk => hk.2) (.int .i64 x90006002_48)) (fun _ hk => hk.2) (.int .i64 x90006003_64)) (fun _ hk => hk.2) (.slice Ao120 x90006004_4.length co120)) (fun _ hk => hk.2) (.bool true)) (fun _ hk => trivial), zcb41⟩
                 · replace c112 := Bool.eq_false_iff.mpr c112
                   subst c112
                   rw [if_neg (show ¬ (false = true) by decide)] at H
                   simp only [Option.some.injEq, Prod.mk.injEq] at H
                   obtain ⟨rfl, rfl, rfl, rfl, rfl, rfl⟩ := H
                   have hz124 := cellsZ6 BK90005.out
                   have hz127 := cellsZ6 BK90004.out
                   obtain ⟨Ao128, co128, eo128⟩ := Kd.R_slice HO_90006004.out
                   subst eo128
                   go_wp2
                   refine bodyPost_ret (results_cell_row rfl _ _ gb90004 26 #[.int .i64 x90006000_29, .int .i64 (wrap64 (a0_1 + a1_1)), .int .i64 x90006002_48, .int .i64 x90006003_64, .slice Ao128 x90006004_4.length co128, .bool false] (0, 0) _ rfl bkZ Try.underlying26 rfl (by kernel_rfl)) rfl ?_
                   exact ⟨_, z674d, by (with_reducible repeat (first | apply Kd.R_alloc | apply Kd.R_drewN | apply Kd.R_drew)); exact Kd.R_mono (Kd.R_far (p := ⟨gb90004, 5, none⟩) (Kd.R_far (p := ⟨gb90004, 4, none⟩) (Kd.R_far (p := ⟨gb90004, 3, none⟩) (Kd.R_far (p := ⟨gb90004, 2, none⟩) (Kd.R_far (p := ⟨gb90004, 1, none⟩) (Kd.R_far (p := ⟨gb90004, 0, none⟩) (Kd.R_types HO_90006004.out BK90004.out (by decide)) (fun _ hk => hk.2) (.int .i64 x90006000_29)) (fun _ hk => hk.2) (.int .i64 (wrap64 (a0_1 + a1_1)))) (fun _ hk => hk.2) (.int .i64 x90006002_48)) (fun _ hk => hk.2) (.int .i64 x90006003_64)) (fun _ hk => hk.2) (.slice Ao128 x90006004_4.length co128)) (fun _ hk => hk.2) (.bool false)) (fun _ hk => trivial), zcb41⟩
     · replace c29 := Bool.eq_false_iff.mpr c29
       subst c29
       rw [if_neg (show ¬ (false = true) by decide)] at H
       have HC129 := aM H
       clear H
       go_enter Try.func68, Try.ntmps68
       go_upto_if 42 with (first | ((with_reducible refine gate_dst (N := 2) rfl ?_); refine bX 2 26 #[.int .i64 a0_0, .int .i64 a0_1, .int .i64 a0_2, .int .i64 a0_3, .slice A0_4 l0_4.length c0_4, .bool false] ?_; intro gb90002 hg w130 hbox hb; have _ := aM (below_step hbZ hb); have _ := aM hbox; have _ := szZ hg; have _ := szZ hg; clear HB; rename_i HB BK90002 GW90002 GE90002; clear hb hbox hg) | ((with_reducible refine gate_dst (N := 3) rfl ?_); refine bX 3 26 #[.int .i64 a1_0, .int .i64 a1_1, .int .i64 a1_2, .int .i64 a1_3, .slice A1_4 l1_4.length c1_4, .bool a1_5] ?_; intro gb90003 hg w131 hbox hb; have _ := bB gb90002 hb; have _ := aM (below_step hbZ hb); have _ := aM hbox; have _ := szZ hg; have _ := szZ hg; have ⟨_, _⟩ := nbB gb90002 hg; clear BK90002 HB; rename_i BK90002 HB BK90003 GW90003 GE90003 NB90002_90003 NB90003_90002; clear hb hbox hg) | ((with_reducible refine gate_dst (N := 4) rfl ?_); refine bX 4 26 #[.int .i64 0, .int .i64 0, .int .i64 0, .int .i64 0, .slice none 0 0, .bool false] ?_; intro gb90004 hg w132 hbox hb; have _ := bB gb90002 hb; have _ := bB gb90003 hb; have _ := aM (below_step hbZ hb); have _ := aM hbox; have _ := szZ hg; have _ := szZ hg; have ⟨_, _⟩ := nbB gb90002 hg; have ⟨_, _⟩ := nbB gb90003 hg; clear BK90002 BK90003 HB; rename_i BK90002 BK90003 HB BK90004 GW90004 GE90004 NB90002_90004 NB90004_90002 NB90003_90004 NB90004_90003; clear hb hbox hg; have hnb133 := NB90002_90003.out; have hnc133 := NB90003_90002.out; have hnb134 := NB90002_90004.out; have hnc134 := NB90004_90002.out; have hz135 := cellsZ6 BK90002.out; have hnb136 := NB90003_90004.out; have hnc136 := NB90004_90003.out; have hz137 := cellsZ6 BK90003.out) | ((with_reducible refine gate_dst (N := 5) rfl ?_); refine bX 5 26 #[.int .i64 0, .int .i64 0, .int .i64 0, .int .i64 0, .slice none 0 0, .bool false] ?_; intro gb90005 hg w138 hbox hb; have _ := bB gb90002 hb; have _ := bB gb90003 hb; have _ := bB gb90004 hb; have _ := aM (below_step hbZ hb); have _ := aM hbox; have _ := szZ hg; have _ := szZ hg; have ⟨_, _⟩ := nbB gb90002 hg; have ⟨_, _⟩ := nbB gb90003 hg; have ⟨_, _⟩ := nbB gb90004 hg; clear BK90002 BK90003 BK90004 HB; rename_i BK90002 BK90003 BK90004 HB BK90005 GW90005 GE90005 NB90002_90005 NB90005_90002 NB90003_90005 NB90005_90003 NB90004_90005 NB90005_90004; clear hb hbox hg; have hnb139 := NB90005_90002.out; have hnc139 := NB90002_90005.out; have hnb140 := NB90005_90003.out; have hnc140 := NB90003_90005.out; have hnb141 := NB90005_90004.out; have hnc141 := NB90004_90005.out; have hz142 := cellsZ6 BK90005.out))
       (try simp only [Act.put, List.setIfInBounds_toArray, List.set_cons_zero, List.set_cons_succ])
       go_cut [] (fun wc => ∃ (kq : Nat) (x90006000_128 : Int) (x90006005_128 : Bool), Aside0 (spec_l4Join.j4 kq a0_0 a0_1 a0_2 a0_3 l0_4 false a1_0 a1_1 a1_2 a1_3 l1_4 a1_5 x90006000_128 (wrap64 (a0_1 + a1_1)) a0_2 a0_3 x90006005_128 = some (r1, r2, r3, r4, r5, r6)) ∧ Aside0 (kq ≤ k) ∧ Aside0 (wc.heap[gb90002]? = some (.cells #[.int .i64 a0_0, .int .i64 a0_1, .int .i64 a0_2, .int .i64 a0_3, (.slice A0_4 l0_4.length c0_4), .bool false] 26 (0, 0))) ∧ Aside0 (wc.heap[gb90003]? = some (.cells #[.int .i64 a1_0, .int .i64 a1_1, .int .i64 a1_2, .int .i64 a1_3, (.slice A1_4 l1_4.length c1_4), .bool a1_5] 26 (0, 0))) ∧ Aside0 (wc.heap[gb90004]? = some (.cells #[.int .i64 0, .int .i64 0, .int .i64 0, .int .i64 0, (.slice none 0 0), .bool false] 26 (0, 0))) ∧ Aside0 (wc.heap[gb90005]? = some (.cells #[.int .i64 x90006000_128, .int .i64 (wrap64 (a0_1 + a1_1)), .int .i64 a0_2, .int .i64 a0_3, (.slice none 0 0), .bool x90006005_128] 26 (0, 0))) ∧ Aside0 (Below w.heap.size w wc))
       case first =>
        have H := HC129.out
        clear HC129
        by_cases c143 : (wrap64 (a0_0 + a1_0)) > 1000000000
        · rw [if_pos c143] at H
          have c143b0 := dL c143
          clear c143
          (first | rw [c143b0] | (simp only [i64_w, i32_w]; rw [c143b0]) | skip)
          have H' := aM H
          clear H
          have hnb144 := NB90005_90002.out
          have hnc144 := NB90002_90005.out
          have hnb145 := NB90005_90003.out
          have hnc145 := NB90003_90005.out
          have hnb146 := NB90005_90004.out
          have hnc146 := NB90004_90005.out
          have hz147 := cellsZ6 BK90005.out
          go_wp2
          go_meet
          case rel => exact ⟨_, (1000000000), (true), H', ⟨zb79b⟩, ⟨bkZ⟩, ⟨bkZ⟩, ⟨bkZ⟩, ⟨bkZ⟩, ⟨zcb41⟩⟩
        · rw [if_neg c143] at H
          have c143b0 := nL c143
          clear c143
          (first | rw [c143b0] | (simp only [i64_w, i32_w]; rw [c143b0]) | skip)
          have H' := aM H
          clear H
          go_wp2
          go_meet
          case rel => exact ⟨_, (wrap64 (a0_0 + a1_0)), (a1_5), H', ⟨zb79b⟩, ⟨bkZ⟩, ⟨bkZ⟩, ⟨bkZ⟩, ⟨bkZ⟩, ⟨zcb41⟩⟩
       case rest =>
        clear HC129
        (try clear c1); (try clear c3); (try clear c16); (try clear c16b0); (try clear c29); (try clear hz135); (try clear hz137); (try clear hz142)
        obtain ⟨kq, x90006000_128, x90006005_128, HA, HJ128, BK90002, BK90003, BK90004, BK90005, HB⟩ := hcut
        cases kq with
        | zero => exact absurd HA.out (by simp [spec_l4Join.j4])
        | succ kj128 =>
         have H := HA.out
         clear HA
         simp only [spec_l4Join.j4] at H
         have HC148 := aM H
         clear H
         have hnb149 := NB90003_90002.out
         have hnc149 := NB90002_90003.out
         have hnb150 := NB90003_90004.out
         have hnc150 := NB90004_90003.out
         have hnb151 := NB90003_90005.out
         have hnc151 := NB90005_90003.out
         have hz152 := cellsZ6 BK90003.out
         have hnb153 := NB90005_90002.out
         have hnc153 := NB90002_90005.out
         have hnb154 := NB90005_90004.out
         have hnc154 := NB90004_90005.out
         have hz155 := cellsZ6 BK90005.out
         go_upto_if 49 with (fail)
         go_cut [] (fun wc => ∃ (kq : Nat) (x90006002_147 : Int), Aside0 (spec_l4Join.j5 kq a0_0 a0_1 a0_2 a0_3 l0_4 false a1_0 a1_1 a1_2 a1_3 l1_4 a1_5 x90006000_128 (wrap64 (a0_1 + a1_1)) x90006002_147 a0_3 x90006005_128 = some (r1, r2, r3, r4, r5, r6)) ∧ Aside0 (kq ≤ kj128) ∧ Aside0 (wc.heap[gb90002]? = some (.cells #[.int .i64 a0_0, .int .i64 a0_1, .int .i64 a0_2, .int .i64 a0_3, (.slice A0_4 l0_4.length c0_4), .bool false] 26 (0, 0))) ∧ Aside0 (wc.heap[gb90003]? = some (.cells #[.int .i64 a1_0, .int .i64 a1_1, .int .i64 a1_2, .int .i64 a1_3, (.slice A1_4 l1_4.length c1_4), .bool a1_5] 26 (0, 0))) ∧ Aside0 (wc.heap[gb90004]? = some (.cells #[.int .i64 0, .int .i64 0, .int .i64 0, .int .i64 0, (.slice none 0 0), .bool false] 26 (0, 0))) ∧ Aside0 (wc.heap[gb90005]? = some (.cells #[.int .i64 x90006000_128, .int .i64 (wrap64 (a0_1 + a1_1)), .int .i64 x90006002_147, .int .i64 a0_3, (.slice none 0 0), .bool x90006005_128] 26 (0, 0))) ∧ Aside0 (Below w.heap.size w wc))
         case first =>
          have H := HC148.out
          clear HC148
          by_cases c156 : a1_2 < a0_2
          · rw [if_pos c156] at H
            have c156b0 := dL c156
            clear c156
            (first | rw [c156b0] | (simp only [i64_w, i32_w]; rw [c156b0]) | skip)
            have H' := aM H
            clear H
            have hz160 := cellsZ6 BK90003.out
            have hz163 := cellsZ6 BK90005.out
            go_wp2
            go_meet
            case rel => exact ⟨_, (a1_2), H', ⟨by have := HJ128.out; first | omega | exact Nat.le_refl _⟩, ⟨bkZ⟩, ⟨bkZ⟩, ⟨bkZ⟩, ⟨bkZ⟩, ⟨zcb41⟩⟩
          · rw [if_neg c156] at H
            have c156b0 := nL c156
            clear c156
            (first | rw [c156b0] | (simp only [i64_w, i32_w]; rw [c156b0]) | skip)
            have H' := aM H
            clear H
            go_wp2
            go_meet
            case rel => exact ⟨_, (a0_2), H', ⟨by have := HJ128.out; first | omega | exact Nat.le_refl _⟩, ⟨bkZ⟩, ⟨bkZ⟩, ⟨bkZ⟩, ⟨bkZ⟩, ⟨zcb41⟩⟩
         case rest =>
          clear HC148
          (try clear hz152); (try clear hz155)
          obtain ⟨kq, x90006002_147, HA, HJ147, BK90002, BK90003, BK90004, BK90005, HB⟩ := hcut
          cases kq with
          | zero => exact absurd HA.out (by simp [spec_l4Join.j5])
          | succ kj147 =>
           have H := HA.out
           clear HA
           simp only [spec_l4Join.j5] at H
           have HC164 := aM H
           clear H
           have hz168 := cellsZ6 BK90003.out
           have hz171 := cellsZ6 BK90005.out
           go_upto_if 57 with (fail)
           go_cut [] (fun wc => ∃ (kq : Nat) (x90006003_163 : Int), Aside0 (spec_l4Join.j6 kq a0_0 a0_1 a0_2 a0_3 l0_4 false a1_0 a1_1 a1_2 a1_3 l1_4 a1_5 x90006000_128 (wrap64 (a0_1 + a1_1)) x90006002_147 x90006003_163 x90006005_128 = some (r1, r2, r3, r4, r5, r6)) ∧ Aside0 (kq ≤ kj147) ∧ Aside0 (wc.heap[gb90002]? = some (.cells #[.int .i64 a0_0, .int .i64 a0_1, .int .i64 a0_2, .int .i64 a0_3, (.slice A0_4 l0_4.length c0_4), .bool false] 26 (0, 0))) ∧ Aside0 (wc.heap[gb90003]? = some (.cells #[.int .i64 a1_0, .int .i64 a1_1, .int .i64 a1_2, .int .i64 a1_3, (.slice A1_4 l1_4.length c1_4), .bool a1_5] 26 (0, 0))) ∧ Aside0 (wc.heap[gb90004]? = some (.cells #[.int .i64 0, .int .i64 0, .int .i64 0, .int .i64 0, (.slice none 0 0), .bool false] 26 (0, 0))) ∧ Aside0 (wc.heap[gb90005]? = some (.cells #[.int .i64 x90006000_128, .int .i64 (wrap64 (a0_1 + a1_1)), .int .i64 x90006002_147, .int .i64 x90006003_163, (.slice none 0 0), .bool x90006005_128] 26 (0, 0))) ∧ Aside0 (Below w.heap.size w wc))
           case first =>
            have H := HC164.out
            clear HC164
            by_cases c172 : a1_3 > a0_3
            · rw [if_pos c172] at H
              have c172b0 := dL c172
              clear c172
              (first | rw [c172b0] | (simp only [i64_w, i32_w]; rw [c172b0]) | skip)
              have H' := aM H
              clear H
              have hz176 := cellsZ6 BK90003.out
              have hz179 := cellsZ6 BK90005.out
              go_wp2
              go_meet
              case rel => exact ⟨_, (a1_3), H', ⟨by have := HJ128.out; have := HJ147.out; first | omega | exact Nat.le_refl _⟩, ⟨bkZ⟩, ⟨bkZ⟩, ⟨bkZ⟩, ⟨bkZ⟩, ⟨zcb41⟩⟩
            · rw [if_neg c172] at H
              have c172b0 := nL c172
              clear c172
              (first | rw [c172b0] | (simp only [i64_w, i32_w]; rw [c172b0]) | skip)
              have H' := aM H
              clear H
              go_wp2
              go_meet
              case rel => exact ⟨_, (a0_3), H', ⟨by have := HJ128.out; have := HJ147.out; first | omega | exact Nat.le_refl _⟩, ⟨bkZ⟩, ⟨bkZ⟩, ⟨bkZ⟩, ⟨bkZ⟩, ⟨zcb41⟩⟩
           case rest =>
            clear HC164
            (try clear hz168); (try clear hz171)
            obtain ⟨kq, x90006003_163, HA, HJ163, BK90002, BK90003, BK90004, BK90005, HB⟩ := hcut
            cases kq with
            | zero => exact absurd HA.out (by simp [spec_l4Join.j6])
            | succ kj163 =>
             have H := HA.out
             clear HA
             simp only [spec_l4Join.j6] at H
             have H' := aM H
             clear H
             have hnb181 := NB90002_90004.out
             have hnc181 := NB90004_90002.out
             have hz183 := cellsZ6 BK90002.out
             go_wp2
             go_loopg [64] kj163 (fun kq v64 w' => ∃ (x64_4 : Int) (x90006004_4 : List Int) (x90006005_4 : Bool) (u90006004 : Value), v64 = .int .i64 x64_4 ∧ Aside0 (spec_l4Join.l0 kq l0_4 (l0_4.length : Int) x64_4 a1_0 a1_1 a1_2 a1_3 l1_4 a1_5 x90006000_128 (wrap64 (a0_1 + a1_1)) x90006002_147 x90006003_163 x90006004_4 x90006005_4 = some (r1, r2, r3, r4, r5, r6)) ∧ Aside0 (kq ≤ kj163) ∧ Aside0 (Kd.R (Kd.int .i64) 3 w' w.heap.size (fun _ => True) u90006004 x90006004_4) ∧ Aside0 (w'.heap[gb90002]? = some (.cells #[.int .i64 a0_0, .int .i64 a0_1, .int .i64 a0_2, .int .i64 a0_3, (.slice A0_4 l0_4.length c0_4), .bool false] 26 (0, 0))) ∧ Aside0 (w'.heap[gb90003]? = some (.cells #[.int .i64 a1_0, .int .i64 a1_1, .int .i64 a1_2, .int .i64 a1_3, (.slice A1_4 l1_4.length c1_4), .bool a1_5] 26 (0, 0))) ∧ Aside0 (w'.heap[gb90004]? = some (.cells #[.int .i64 0, .int .i64 0, .int .i64 0, .int .i64 0, (.slice none 0 0), .bool false] 26 (0, 0))) ∧ Aside0 (w'.heap[gb90005]? = some (.cells #[.int .i64 x90006000_128, .int .i64 (wrap64 (a0_1 + a1_1)), .int .i64 x90006002_147, .int .i64 x90006003_163, u90006004, .bool x90006005_4] 26 (0, 0))) ∧ Aside0 (Below w.heap.size w w'))
             case atStart => exact ⟨(0), (([] : List Int)), (x90006005_128), (.slice none 0 0), z4458, H', ⟨Nat.le_refl _⟩, ⟨z02fa⟩, ⟨bkZ⟩, ⟨bkZ⟩, ⟨bkZ⟩, ⟨bkZ⟩, ⟨zcb41⟩⟩
             case round =>
              clear H'
              (try clear hz183)
              obtain ⟨x64_4, x90006004_4, x90006005_4, u90006004, rfl, HA, HK4, HO_90006004, BK90002, BK90003, BK90004, BK90005, HB⟩ := hrel
              cases gk with
              | zero => exact absurd HA.out (by simp [spec_l4Join.l0])
              | succ k4 =>
               have H := HA.out
               clear HA
               simp only [spec_l4Join.l0] at H
               by_cases c184 : x64_4 < (l0_4.length : Int)
               · rw [if_pos c184] at H
                 have c184b0 := dL c184
                 clear c184
                 obtain ⟨c185b0, H⟩ := sE H
                 obtain ⟨c186b0, H⟩ := sL H
                 obtain ⟨c187b0, H⟩ := sL H
                 by_cases c188 : (wrap64 ((rd l0_4 x64_4) + (rd l1_4 x64_4))) > 1000000000
                 · rw [if_pos c188] at H
                   have c188b0 := dL c188
                   clear c188
                   obtain ⟨LMc189, H⟩ := sM H
                   obtain ⟨y123, hy123⟩ : ∃ y_ : List Int, y_ = (x90006004_4 ++ [1000000000]) := ⟨_, rfl⟩
                   first | (replace H := bindS H; rw [← hy123] at H; try dsimp only at H) | rw [← hy123] at H
                   have Ny123 := aM hy123
                   clear hy123
                   have H' := aM H
                   clear H
                   have p121 : 0 ≤ (x64_4 : Int) := of_decide_eq_true z1200
                   have q121 : x64_4 < (l0_4.length : Int) := of_decide_eq_true z1200
                   obtain ⟨ad121, e121, hx121_0⟩ := Kd.at_int HR0_4.out x64_4 p121 q121
                   cases e121
                   replace hx121_0 := (HB.out.cell (World.block_lt_of_cell? w _ hx121_0)).trans hx121_0
                   replace p121 := eq_true p121
                   replace q121 := eq_true q121
                   have hz193 := cellsZ6 BK90003.out
                   have p122 : 0 ≤ (x64_4 : Int) := of_decide_eq_true z1200
                   have q122 : x64_4 < (l1_4.length : Int) := of_decide_eq_true z1200
                   obtain ⟨ad122, e122, hx122_0⟩ := Kd.at_int HR1_4.out x64_4 p122 q122
                   cases e122
                   replace hx122_0 := (HB.out.cell (World.block_lt_of_cell? w _ hx122_0)).trans hx122_0
                   replace p122 := eq_true p122
                   replace q122 := eq_true q122
                   have hz196 := cellsZ6 BK90005.out
                   go_wp2_with (first | ((with_reducible refine gate_builtin (b := .append) (xs := #[.tmp 80, .tmp 82]) rfl ?_); at_builtin; refine Kd.R_append (Kd.int .i64) (w0 := w) w.heap.size rfl (.tmp 80) (.tmp 82) 24 3 (.int .i64 0) 8 rfl Try.underlying24 info3 rfl (by decide) (by omega) u90006004 x90006004_4 1000000000 [.int .i64 1000000000] (fun _ => True) (fun _ => False) rfl (by first | (go_simp; done) | (go_simp; rfl)) ?aP (fun _ hk => hk.elim) ?aF ?aO ?aB ?aS ?aL ?_; (case aP => exact rfl); (case aB => exact hbZ); (case aF => exact (fun _ _ => trivial)); (case aO => exact (by (with_reducible repeat (first | apply Kd.R_alloc | apply Kd.R_drewN | apply Kd.R_drew)); exact Kd.R_mono (Kd.R_far (p := ⟨gb90005, 5, none⟩) (Kd.R_types HO_90006004.out BK90005.out (by decide)) (fun _ hk => hk.2) (.bool true)) (fun _ hk => trivial))); (case aS => exact (below_size hbZ)); (case aL => have := LMc189.out; omega); intro v124 w197 ho hb hg hat; rw [← Ny123.out] at ho; have _ := aM (blk_grown (g := gb90002) bkZ hg (Kd.R_ne HO_90006004.out BK90002.out (by decide))); have _ := aM (blk_grown (g := gb90003) bkZ hg (Kd.R_ne HO_90006004.out BK90003.out (by decide))); have _ := aM (blk_grown (g := gb90004) bkZ hg (Kd.R_ne HO_90006004.out BK90004.out (by decide))); have _ := aM (blk_grown (g := gb90005) (o := .cells #[.int .i64 x90006000_128, .int .i64 (wrap64 (a0_1 + a1_1)), .int .i64 x90006002_147, .int .i64 x90006003_163, u90006004, .bool true] 26 (0, 0)) bkZ hg (Kd.R_ne HO_90006004.out BK90005.out (by decide))); have _ := aM hb; have _ := aM ho; clear BK90002 BK90003 BK90004 BK90005 HB HO_90006004; rename_i BK90002 BK90003 BK90004 BK90005 HB HO125; clear ho hb hg hat; obtain ⟨Ao198, co198, eo198⟩ := Kd.R_slice HO125.out; subst eo198; have hz199 := cellsZ6 BK90005.out))
                   go_roundg k4
                   case measure => have := HJ128.out; have := HJ147.out; have := HJ163.out; have := HK4.out; omega
                   case rel => exact ⟨(wrap64 (x64_4 + 1)), (y123), (true), (.slice Ao198 y123.length co198), z4458, H', ⟨by have := HJ128.out; have := HJ147.out; have := HJ163.out; have := HK4.out; omega⟩, ⟨by (with_reducible repeat (first | apply Kd.R_alloc | apply Kd.R_drewN | apply Kd.R_drew)); exact Kd.R_mono (Kd.R_far (p := ⟨gb90005, 4, none⟩) (Kd.R_types HO125.out BK90005.out (by decide)) (fun _ hk => hk.2) (.slice Ao198 y123.length co198)) (fun _ hk => trivial)⟩, ⟨bkZ⟩, ⟨bkZ⟩, ⟨bkZ⟩, ⟨bkZ⟩, ⟨zcb41⟩⟩
                 · rw [if_neg c188] at H
                   have c188b0 := nL c188
                   clear c188
                   obtain ⟨LMc200, H⟩ := sM H
                   obtain ⟨y126, hy126⟩ : ∃ y_ : List Int, y_ = (x90006004_4 ++ [wrap64 ((rd l0_4 x64_4) + (rd l1_4 x64_4))]) := ⟨_, rfl⟩
                   first | (replace H := bindS H; rw [← hy126] at H; try dsimp only at H) | rw [← hy126] at H
                   have Ny126 := aM hy126
                   clear hy126
                   have H' := aM H
                   clear H
                   have p121 : 0 ≤ (x64_4 : Int) := of_decide_eq_true z1200
                   have q121 : x64_4 < (l0_4.length : Int) := of_decide_eq_true z1200
                   obtain ⟨ad121, e121, hx121_0⟩ := Kd.at_int HR0_4.out x64_4 p121 q121
                   cases e121
                   replace hx121_0 := (HB.out.cell (World.block_lt_of_cell? w _ hx121_0)).trans hx121_0
                   replace p121 := eq_true p121
                   replace q121 := eq_true q121
                   have hz204 := cellsZ6 BK90003.out
                   have p122 : 0 ≤ (x64_4 : Int) := of_decide_eq_true z1200
                   have q122 : x64_4 < (l1_4.length : Int) := of_decide_eq_true z1200
                   obtain ⟨ad122, e122, hx122_0⟩ := Kd.at_int HR1_4.out x64_4 p122 q122
                   cases e122
                   replace hx122_0 := (HB.out.cell (World.block_lt_of_cell? w _ hx122_0)).trans hx122_0
                   replace p122 := eq_true p122
                   replace q122 := eq_true q122
                   have hz207 := cellsZ6 BK90005.out
                   go_wp2_with (first | ((with_reducible refine gate_builtin (b := .append) (xs := #[.tmp 80, .tmp 82]) rfl ?_); at_builtin; refine Kd.R_append (Kd.int .i64) (w0 := w) w.heap.size rfl (.tmp 80) (.tmp 82) 24 3 (.int .i64 0) 8 rfl Try.underlying24 info3 rfl (by decide) (by omega) u90006004 x90006004_4 (wrap64 ((rd l0_4 x64_4) + (rd l1_4 x64_4))) [.int .i64 (wrap64 ((rd l0_4 x64_4) + (rd l1_4 x64_4)))] (fun _ => True) (fun _ => False) rfl rfl ?aP (fun _ hk => hk.elim) ?aF ?aO ?aB ?aS ?aL ?_; (case aP => exact rfl); (case aB => exact hbZ); (case aF => exact (fun _ _ => trivial)); (case aO => exact (rZ HO_90006004.out)); (case aS => exact (below_size hbZ)); (case aL => have := LMc200.out; omega); intro v127 w208 ho hb hg hat; rw [← Ny126.out] at ho; have _ := aM (blk_grown (g := gb90002) bkZ hg (Kd.R_ne HO_90006004.out BK90002.out (by decide))); have _ := aM (blk_grown (g := gb90003) bkZ hg (Kd.R_ne HO_90006004.out BK90003.out (by decide))); have _ := aM (blk_grown (g := gb90004) bkZ hg (Kd.R_ne HO_90006004.out BK90004.out (by decide))); have _ := aM (blk_grown (g := gb90005) bkZ hg (Kd.R_ne HO_90006004.out BK90005.out (by decide))); have _ := aM hb; have _ := aM ho; clear BK90002 BK90003 BK90004 BK90005 HB HO_90006004; rename_i BK90002 BK90003 BK90004 BK90005 HB HO128; clear ho hb hg hat; obtain ⟨Ao209, co209, eo209⟩ := Kd.R_slice HO128.out; subst eo209; have hz210 := cellsZ6 BK90005.out))
                   go_roundg k4
                   case measure => have := HJ128.out; have := HJ147.out; have := HJ163.out; have := HK4.out; omega
                   case rel => exact ⟨(wrap64 (x64_4 + 1)), (y126), (x90006005_4), (.slice Ao209 y126.length co209), z4458, H', ⟨by have := HJ128.out; have := HJ147.out; have := HJ163.out; have := HK4.out; omega⟩, ⟨by (with_reducible repeat (first | apply Kd.R_alloc | apply Kd.R_drewN | apply Kd.R_drew)); exact Kd.R_mono (Kd.R_far (p := ⟨gb90005, 4, none⟩) (Kd.R_types HO128.out BK90005.out (by decide)) (fun _ hk => hk.2) (.slice Ao209 y126.length co209)) (fun _ hk => trivial)⟩, ⟨bkZ⟩, ⟨bkZ⟩, ⟨bkZ⟩, ⟨bkZ⟩, ⟨zcb41⟩⟩
               · rw [if_neg c184] at H
                 have c184b0 := nL c184
                 clear c184
                 by_cases c211 : x90006005_4 = true
                 · subst c211
                   rw [if_pos rfl] at H
                   simp only [Option.some.injEq, Prod.mk.injEq] at H
                   obtain ⟨rfl, rfl, rfl, rfl, rfl, rfl⟩ := H
                   have hz215 := cellsZ6 BK90005.out
                   have hz218 := cellsZ6 BK90004.out
                   obtain ⟨Ao219, co219, eo219⟩ := Kd.R_slice HO_90006004.out
                   subst eo219
                   go_wp2
                   refine bodyPost_ret (results_cell_row rfl _ _ gb90004 26 #[.int .i64 x90006000_128, .int .i64 0, .int .i64 x90006002_147, .int .i64 x90006003_163, .slice Ao219 x90006004_4.length co219, .bool true] (0, 0) _ rfl bkZ Try.underlying26 rfl (by kernel_rfl)) rfl ?_
                   exact ⟨_, z674d, by (with_reducible repeat (first | apply Kd.R_alloc | apply Kd.R_drewN | apply Kd.R_drew)); exact Kd.R_mono (Kd.R_far (p := ⟨gb90004, 5, none⟩) (Kd.R_far (p := ⟨gb90004, 4, none⟩) (Kd.R_far (p := ⟨gb90004, 3, none⟩) (Kd.R_far (p := ⟨gb90004, 2, none⟩) (Kd.R_far (p := ⟨gb90004, 1, none⟩) (Kd.R_far (p := ⟨gb90004, 0, none⟩) (Kd.R_far (p := ⟨gb90005, 1, none⟩) (Kd.R_types (Kd.R_types HO_90006004.out BK90005.out (by decide)) BK90004.out (by decide)) (fun _ hk => hk.1.2) (.int .i64 0)) (fun _ hk => hk.2) (.int .i64 x90006000_128)) (fun _ hk => hk.2) (.int .i64 0)) (fun _ hk => hk.2) (.int .i64 x90006002_147)) (fun _ hk => hk.2) (.int .i64 x90006003_163)) (fun _ hk => hk.2) (.slice Ao219 x90006004_4.length co219)) (fun _ hk => hk.2) (.bool true)) (fun _ hk => trivial), zcb41⟩
                 · replace c211 := Bool.eq_false_iff.mpr c211
                   subst c211
                   rw [if_neg (show ¬ (false = true) by decide)] at H
                   simp only [Option.some.injEq, Prod.mk.injEq] at H
                   obtain ⟨rfl, rfl, rfl, rfl, rfl, rfl⟩ := H
                   have hz223 := cellsZ6 BK90005.out
                   have hz226 := cellsZ6 BK90004.out
                   obtain ⟨Ao227, co227, eo227⟩ := Kd.R_slice HO_90006004.out
                   subst eo227
                   go_wp2
                   refine bodyPost_ret (results_cell_row rfl _ _ gb90004 26 #[.int .i64 x90006000_128, .int .i64 (wrap64 (a0_1 + a1_1)), .int .i64 x90006002_147, .int .i64 x90006003_163, .slice Ao227 x90006004_4.length co227, .bool false] (0, 0) _ rfl bkZ Try.underlying26 rfl (by kernel_rfl)) rfl ?_
                   exact ⟨_, z674d, by (with_reducible repeat (first | apply Kd.R_alloc | apply Kd.R_drewN | apply Kd.R_drew)); exact Kd.R_mono (Kd.R_far (p := ⟨gb90004, 5, none⟩) (Kd.R_far (p := ⟨gb90004, 4, none⟩) (Kd.R_far (p := ⟨gb90004, 3, none⟩) (Kd.R_far (p := ⟨gb90004, 2, none⟩) (Kd.R_far (p := ⟨gb90004, 1, none⟩) (Kd.R_far (p := ⟨gb90004, 0, none⟩) (Kd.R_types HO_90006004.out BK90004.out (by decide)) (fun _ hk => hk.2) (.int .i64 x90006000_128)) (fun _ hk => hk.2) (.int .i64 (wrap64 (a0_1 + a1_1)))) (fun _ hk => hk.2) (.int .i64 x90006002_147)) (fun _ hk => hk.2) (.int .i64 x90006003_163)) (fun _ hk => hk.2) (.slice Ao227 x90006004_4.length co227)) (fun _ hk => hk.2) (.bool false)) (fun _ hk => trivial), zcb41⟩
def spec_l4Bucket.l0 : Nat → Int → Int → Int → Option (Int)
 | 0, _, _, _ => none
 | k + 1, x0, x3, x4 => if x3 < 7 then (if x0 ≥ x4 then (spec_l4Bucket.l0 k x0 (wrap64 (x3 + 1)) (wrap64 (x4 * 10))) else (some x3)) else (some x3)
def spec_l4Bucket.f (k : Nat) (a0 : Int) : Option (Int) := if a0 < 0 then (some 0) else (spec_l4Bucket.l0 k a0 1 1)
theorem spec_l4Bucket.mono_l : ∀ k, (∀ y0 y1 y2, LeO (spec_l4Bucket.l0 k y0 y1 y2) (spec_l4Bucket.l0 (k + 1) y0 y1 y2))
 | 0 => fun _ _ _ r h => by simp [spec_l4Bucket.l0] at h
 | k + 1 => by
  have ih0 := spec_l4Bucket.mono_l k
  · intro y0 y1 y2
    unfold spec_l4Bucket.l0
    exact moZ
theorem spec_l4Bucket.mono : ∀ a0 k, LeO (spec_l4Bucket.f k a0) (spec_l4Bucket.f (k + 1) a0) := by
 intro a0 k
 have ih0 := spec_l4Bucket.mono_l k
 unfold spec_l4Bucket.f
 exact moZ
theorem spec_l4Bucket.calls (k : Nat) (a0 : Int) (r : Int) (w : World) (h : spec_l4Bucket.f k a0 = some r) :
 Calls Try.prog 114 #[.int .i64 a0] w fun e w' => e = .returned (.int .i64 r) ∧ Drawn0 w w' := by
 have H : (if a0 < 0 then (some 0) else (spec_l4Bucket.l0 k a0 1 1)) = some r := h
 clear h
 by_cases c2 : a0 < 0
 · rw [if_pos c2] at H
   have c2b0 := dL c2
   clear c2
   obtain rfl := Option.some.inj H
   go_enter Try.func114, Try.ntmps114
   go_wp2
   go_ret
   exact ⟨z4458, za9de⟩
 · rw [if_neg c2] at H
   have c2b0 := nL c2
   clear c2
   have H' := aM H
   clear H
   go_enter Try.func114, Try.ntmps114
   go_wp2
   go_loopg [3, 4] k (fun kq v3 v4 w' => ∃ (x3_1 : Int) (x4_1 : Int), v3 = .int .i64 x3_1 ∧ v4 = .int .i64 x4_1 ∧ Aside0 (spec_l4Bucket.l0 kq a0 x3_1 x4_1 = some r) ∧ Aside0 (kq ≤ k) ∧ Drawn0 w w')
   case atStart => exact ⟨(1), (1), z4458, z4458, H', ⟨Nat.le_refl _⟩, za9de⟩
   case round =>
    clear H'
    (try clear c2b0)
    obtain ⟨x3_1, x4_1, rfl, rfl, HA, HK1, ⟨m1, rfl⟩⟩ := hrel
    cases gk with
    | zero => exact absurd HA.out (by simp [spec_l4Bucket.l0])
    | succ k1 =>
     have H := HA.out
     clear HA
     simp only [spec_l4Bucket.l0] at H
     by_cases c3 : x3_1 < 7
     · rw [if_pos c3] at H
       have c3b0 := dL c3
       clear c3
       by_cases c4 : a0 ≥ x4_1
       · rw [if_pos c4] at H
         have c4b0 := dE c4
         clear c4
         have H' := aM H
         clear H
         go_wp2
         go_roundg k1
         case measure => have := HK1.out; omega
         case rel => exact ⟨(wrap64 (x3_1 + 1)), (wrap64 (x4_1 * 10)), z4458, z4458, H', ⟨zfb39⟩, za9de⟩
       · rw [if_neg c4] at H
         have c4b0 := nE c4
         clear c4
         obtain rfl := Option.some.inj H
         go_wp2
         go_ret
         exact ⟨z4458, za9de⟩
     · rw [if_neg c3] at H
       have c3b0 := nL c3
       clear c3
       obtain rfl := Option.some.inj H
       go_wp2
       go_ret
       exact ⟨z4458, za9de⟩
def spec_l4Of.f (k : Nat) (a0 : Int) : Option (Int × Int × Int × Int × List Int × Bool) := if 8 ≤ 35184372088832 then ((some (List.replicate 8 0 : List Int)).bind fun y102 => ((spec_l4Bucket.f k a0).bind fun t106 => (if 0 ≤ t106 then (if t106 < (y102.length : Int) then (some (1, a0, a0, a0, (y102.set (t106 : Int).toNat 1), false)) else (none)) else (none)))) else (none)
theorem spec_l4Of.mono : ∀ a0 k, LeO (spec_l4Of.f k a0) (spec_l4Of.f (k + 1) a0) := by
 intro a0 k
 have m0 := @spec_l4Bucket.mono
 unfold spec_l4Of.f
 exact moZ
theorem spec_l4Of.calls (k : Nat) (a0 : Int) (r1 : Int) (r2 : Int) (r3 : Int) (r4 : Int) (r5 : List Int) (r6 : Bool) (w : World) (h : spec_l4Of.f k a0 = some (r1, r2, r3, r4, r5, r6)) :
 Calls Try.prog 98 #[.int .i64 a0] w fun e w' => ∃ v4_ : Value, e = .returned (.agg #[.int .i64 r1, .int .i64 r2, .int .i64 r3, .int .i64 r4, v4_, .bool r6]) ∧ Kd.R (Kd.int .i64) 3 w' w.heap.size (fun _ => True) v4_ r5 ∧ Below w.heap.size w w' := by
 have hu26 := Try.underlying26
 have HB := aM (Below.refl w.heap.size w)
 have H : (if 8 ≤ 35184372088832 then ((some (List.replicate 8 0 : List Int)).bind fun y102 => ((spec_l4Bucket.f k a0).bind fun t106 => (if 0 ≤ t106 then (if t106 < (y102.length : Int) then (some (1, a0, a0, a0, (y102.set (t106 : Int).toNat 1), false)) else (none)) else (none)))) else (none)) = some (r1, r2, r3, r4, r5, r6) := h
 clear h
 replace H := ifS H; obtain ⟨c2, H⟩ := H
 have c2b0 := eq_true c2
 have c2b1 : decide (8 ≤ 35184372088832) = true := decide_eq_true c2
 clear c2
 obtain ⟨y102, hy102⟩ : ∃ y_ : List Int, y_ = (List.replicate 8 0) := ⟨_, rfl⟩
 first | (replace H := bindS H; rw [← hy102] at H; try dsimp only at H) | rw [← hy102] at H
 have Ny102 := aM hy102
 clear hy102
 obtain ⟨t106, A3, H⟩ := bS H; try dsimp only at H
 obtain ⟨c4b0, H⟩ := sE H
 obtain ⟨c5b0, H⟩ := sL H
 obtain ⟨y107, hy107⟩ : ∃ y_ : List Int, y_ = (y102.set (t106 : Int).toNat 1) := ⟨_, rfl⟩
 first | (replace H := bindS H; rw [← hy107] at H; try dsimp only at H) | rw [← hy107] at H
 have Ny107 := aM hy107
 clear hy107
 simp only [Option.some.injEq, Prod.mk.injEq] at H
 obtain ⟨rfl, rfl, rfl, rfl, rfl, rfl⟩ := H
 go_enter Try.func98, Try.ntmps98
 try go_wp2_with (first | ((with_reducible refine gate_dst (N := 2) rfl ?_); refine bX 2 26 #[.int .i64 0, .int .i64 0, .int .i64 0, .int .i64 0, .slice none 0 0, .bool false] ?_; intro gb101 hg w7 hbox hb; have _ := aM (below_step hbZ hb); have _ := aM hbox; have _ := szZ hg; have _ := szZ hg; clear HB; rename_i HB BK101 GW101 GE101; clear hb hbox hg) | ((with_reducible refine gate_dst (N := 7) rfl ?_); refine Kd.R_make (Kd.int .i64) _ 3 rfl (N := 7) rfl 24 _ _ rfl 8 rfl rfl Try.underlying24 (.int .i64 0) 8 info3 rfl (by decide) (by omega) 0 (ok := fun _ => True) (okp := fun _ => True) rfl (fun _ hk => hk) trivial (by omega) (by omega) (Below.refl _ _) (Nat.le_refl _) ?_; intro v103 w8 ho9 hb hg_ hnew_; clear hg_ hnew_; (first | rw [← Ny102.out] at ho9 | (simp only [Int.reduceToNat] at ho9; rw [← Ny102.out] at ho9)); have _ := aM (Kd.R_lower ho9 (below_size hbZ)); have _ := bB gb101 hb; have _ := aM (below_step hbZ hb); clear BK101 HB; rename_i HO104 BK101 HB; clear hb ho9; obtain ⟨Ao10, co10, eo10⟩ := Kd.R_slice HO104.out; subst eo10) | ((with_reducible refine gate_dst (N := 3) rfl ?_); refine bX 3 26 #[.int .i64 0, .int .i64 0, .int .i64 0, .int .i64 0, .slice none 0 0, .bool false] ?_; intro gb105 hg w11 hbox hb; have _ := aM (Kd.R_below (rZ HO104.out) hb); have _ := bB gb101 hb; have _ := aM (below_step hbZ hb); have _ := aM hbox; have _ := szZ hg; have _ := szZ hg; have ⟨_, _⟩ := nbB gb101 hg; clear HO104 BK101 HB; rename_i HO104 BK101 HB BK105 GW105 GE105 NB101_105 NB105_101; clear hb hbox hg; have hnb12 := NB105_101.out; have hnc12 := NB101_105.out; have hz13 := cellsZ6 BK105.out))
 have n0_ : Aside0 (Kd.R (Kd.int .i64) 3 ((((((w11.setCell ⟨gb105, 0, none⟩ (.int .i64 1)).setCell ⟨gb105, 1, none⟩ (.int .i64 a0)).setCell ⟨gb105, 2, none⟩ (.int .i64 a0)).setCell ⟨gb105, 3, none⟩ (.int .i64 a0)).setCell ⟨gb105, 4, none⟩ (.slice Ao10 y102.length co10)).setCell ⟨gb105, 5, none⟩ (.bool false)) w.heap.size (fun _ => True) (.slice Ao10 y102.length co10) y102) := ⟨by (with_reducible repeat (first | apply Kd.R_alloc | apply Kd.R_drewN | apply Kd.R_drew)); exact Kd.R_mono (Kd.R_far (p := ⟨gb105, 5, none⟩) (Kd.R_far (p := ⟨gb105, 4, none⟩) (Kd.R_far (p := ⟨gb105, 3, none⟩) (Kd.R_far (p := ⟨gb105, 2, none⟩) (Kd.R_far (p := ⟨gb105, 1, none⟩) (Kd.R_far (p := ⟨gb105, 0, none⟩) (Kd.R_types HO104.out BK105.out (by decide)) (fun _ hk => hk.2) (.int .i64 1)) (fun _ hk => hk.2) (.int .i64 a0)) (fun _ hk => hk.2) (.int .i64 a0)) (fun _ hk => hk.2) (.int .i64 a0)) (fun _ hk => hk.2) (.slice Ao10 y102.length co10)) (fun _ hk => hk.2) (.bool false)) (fun _ hk => trivial)⟩
 have n1_ : Aside0 (((((((w11.setCell ⟨gb105, 0, none⟩ (.int .i64 1)).setCell ⟨gb105, 1, none⟩ (.int .i64 a0)).setCell ⟨gb105, 2, none⟩ (.int .i64 a0)).setCell ⟨gb105, 3, none⟩ (.int .i64 a0)).setCell ⟨gb105, 4, none⟩ (.slice Ao10 y102.length co10)).setCell ⟨gb105, 5, none⟩ (.bool false)).heap[gb101]? = some (.cells #[.int .i64 0, .int .i64 0, .int .i64 0, .int .i64 0, .slice none 0 0, .bool false] 26 (0, 0))) := ⟨bkZ⟩
 have n2_ : Aside0 (((((((w11.setCell ⟨gb105, 0, none⟩ (.int .i64 1)).setCell ⟨gb105, 1, none⟩ (.int .i64 a0)).setCell ⟨gb105, 2, none⟩ (.int .i64 a0)).setCell ⟨gb105, 3, none⟩ (.int .i64 a0)).setCell ⟨gb105, 4, none⟩ (.slice Ao10 y102.length co10)).setCell ⟨gb105, 5, none⟩ (.bool false)).heap[gb105]? = some (.cells #[.int .i64 1, .int .i64 a0, .int .i64 a0, .int .i64 a0, .slice Ao10 y102.length co10, .bool false] 26 (0, 0))) := ⟨bkZ⟩
 have n3_ : Aside0 (Below w.heap.size w ((((((w11.setCell ⟨gb105, 0, none⟩ (.int .i64 1)).setCell ⟨gb105, 1, none⟩ (.int .i64 a0)).setCell ⟨gb105, 2, none⟩ (.int .i64 a0)).setCell ⟨gb105, 3, none⟩ (.int .i64 a0)).setCell ⟨gb105, 4, none⟩ (.slice Ao10 y102.length co10)).setCell ⟨gb105, 5, none⟩ (.bool false))) := ⟨zcb41⟩
 (try clear HO104); (try clear BK101); (try clear BK105); (try clear HB)
 generalize ((((((w11.setCell ⟨gb105, 0, none⟩ (.int .i64 1)).setCell ⟨gb105, 1, none⟩ (.int .i64 a0)).setCell ⟨gb105, 2, none⟩ (.int .i64 a0)).setCell ⟨gb105, 3, none⟩ (.int .i64 a0)).setCell ⟨gb105, 4, none⟩ (.slice Ao10 y102.length co10)).setCell ⟨gb105, 5, none⟩ (.bool false)) = w14 at n0_ n1_ n2_ n3_ ⊢
 have HO104 := n0_
 have BK101 := n1_
 have BK105 := n2_
 have HB := n3_
 clear n0_ n1_ n2_ n3_
 have _ := aM (Kd.R_drew HO104.out)
 have _ := aM (blk_drew BK101.out)
 have _ := aM (blk_drew BK105.out)
 have _ := aM (below_drew1 HB.out)
 clear HO104
 clear BK101
 clear BK105
 clear HB
 rename_i HO104 BK101 BK105 HB
 refine start_ (n := 6) (S := fun w' => w'.cell? ⟨gb105, 0, none⟩ = some (.int .i64 1) ∧ w'.cell? ⟨gb105, 1, none⟩ = some (.int .i64 a0) ∧ w'.cell? ⟨gb105, 2, none⟩ = some (.int .i64 a0) ∧ w'.cell? ⟨gb105, 3, none⟩ = some (.int .i64 a0) ∧ w'.cell? ⟨gb105, 4, none⟩ = some (.slice Ao10 y102.length co10) ∧ w'.cell? ⟨gb105, 5, none⟩ = some (.bool false)) (ds := [5]) #[false, false, false, false, false, false] (by kernel_rfl) rfl rfl ⟨(blk_cell BK105.out 0).trans rfl, (blk_cell BK105.out 1).trans rfl, (blk_cell BK105.out 2).trans rfl, (blk_cell BK105.out 3).trans rfl, (blk_cell BK105.out 4).trans rfl, (blk_cell BK105.out 5).trans rfl⟩ (fun hHeld => ?_)
 generalize w14.drew = w15 at HO104 BK101 BK105 HB hHeld ⊢
 refine pure_ (i := 0) (N := some 9) (v := ?_) (a' := ?_) #[true, false, false, false, false, false] rfl rfl (by kernel_rfl) (fun _ _ _ h => h) (Or.inl ⟨by rfl, ?_⟩) ?_ ?_
 rotate_left
 · intro w'
   go_simp
   with_reducible rfl
 rotate_left
 · simp only [Act.put, List.setIfInBounds_toArray, List.set_cons_zero, List.set_cons_succ, i64_w, i32_w]
   rfl
 refine pure_ (i := 2) (N := some 11) (v := ?_) (a' := ?_) #[true, false, true, false, false, false] rfl rfl (by kernel_rfl) (fun _ _ _ h => h) (Or.inl ⟨by rfl, ?_⟩) ?_ ?_
 rotate_left
 · intro w'
   go_simp
   with_reducible rfl
 rotate_left
 · simp only [Act.put, List.setIfInBounds_toArray, List.set_cons_zero, List.set_cons_succ, i64_w, i32_w]
   rfl
 refine take_ (i := 1) (N := some 10) (v := ?_) (a' := ?_) #[true, true, true, false, false, false] rfl rfl (by kernel_rfl) (fun _ _ _ h => h) (Or.inl ⟨by rfl, ?_⟩) hHeld ?_ ?_
 rotate_left
 · rintro w' ⟨s0, s1, s2, s3, s4, s5⟩
   go_simp
   with_reducible rfl
 rotate_left
 · simp only [Act.put, List.setIfInBounds_toArray, List.set_cons_zero, List.set_cons_succ, i64_w, i32_w]
   rfl
 refine one_ (i := 3) (N := some 12) #[true, true, true, true, false, false] rfl rfl (by kernel_rfl) (by decide) (fun K hK => ?_)
 refine goes_ Try.func114 (by kernel_rfl) rfl #[.int .i64 a0] (by rfl) rfl rfl zee81 ?_
 with_reducible refine (spec_l4Bucket.calls k a0 t106 _ A3.out).mono ?_
 rintro e w' ⟨rfl, ⟨nd, rfl⟩⟩
 refine ⟨_, rfl, ?_⟩
 have p6 : 0 ≤ (t106 : Int) := of_decide_eq_true z1200
 have q6 : (t106 : Int) < ((y102.length : Int) : Int) := of_decide_eq_true z1200
 obtain ⟨go6, co6, eo6, gb6, gl6, cl6, HG6⟩ := Kd.R_form HO104.out (by omega)
 (first | cases eo6 | (injection eo6 with ea_ en_ ec_; (first | subst ea_ | (injection ea_ with ea_; subst ea_)); subst ec_; clear en_))
 have GB6 := aM gb6
 have GG6 := aM HG6
 clear gb6 gl6 HG6
 obtain ⟨hx6_0, hf6_0⟩ := Kd.R_celln 0 HO104.out (t106 : Int) p6 q6
 replace p6 := eq_true p6
 replace q6 := eq_true q6
 have HP16 := Kd.R_putn HO104.out (t106 : Int) 1
 rw [← Ny107.out] at HP16
 have HQ16 := aM HP16
 clear HP16
 refine hK.out _ _ sZ (fun hHeld => ?_)
 clear hK K
 refine nA 12 ?_
 refine pure_ (i := 4) (N := some 13) (v := ?_) (a' := ?_) #[true, true, true, true, true, false] rfl rfl (by kernel_rfl) (fun _ _ _ h => h) (Or.inl ⟨by rfl, ?_⟩) ?_ ?_
 rotate_left
 · intro w'
   go_simp
   with_reducible rfl
 rotate_left
 · simp only [Act.put, List.setIfInBounds_toArray, List.set_cons_zero, List.set_cons_succ, i64_w, i32_w]
   rfl
 refine last_ (i := 5) (N := none) #[true, true, true, true, true, true] rfl rfl (by kernel_rfl) (by decide) (fun K hK => ?_)
 refine skip_ (w1 := ?_) (by rfl) rfl ?_ ?_
 rotate_left
 · go_simp
   rfl
 refine hK.out _ _ ?_
 clear hK K
 refine done_ (by kernel_rfl) ?_
 have n0_ : Aside0 (Kd.R (Kd.int .i64) 3 ((w15.drewN nd).setCell ⟨go6, (t106 : Int).toNat, none⟩ (.int .i64 1)) w.heap.size (fun _ => True) (.slice (some ⟨go6, 0, none⟩) y102.length co10) y107) := ⟨rZ HQ16.out⟩
 have n1_ : Aside0 (((w15.drewN nd).setCell ⟨go6, (t106 : Int).toNat, none⟩ (.int .i64 1)).heap[gb101]? = some (.cells #[.int .i64 0, .int .i64 0, .int .i64 0, .int .i64 0, .slice none 0 0, .bool false] 26 (0, 0))) := ⟨by (with_reducible repeat (first | refine blk_drewN ?_ _ | refine blk_drew ?_ | refine blk_alloc ?_ _)); refine blk_far ?_ (by have h_ := Kd.R_ne HO104.out BK101.out (by decide); intro e_; exact h_ (by rw [e_]; rfl)) _; (with_reducible repeat (first | refine blk_drewN ?_ _ | refine blk_drew ?_ | refine blk_alloc ?_ _)); exact BK101.out⟩
 have n2_ : Aside0 (((w15.drewN nd).setCell ⟨go6, (t106 : Int).toNat, none⟩ (.int .i64 1)).heap[gb105]? = some (.cells #[.int .i64 1, .int .i64 a0, .int .i64 a0, .int .i64 a0, .slice (some ⟨go6, 0, none⟩) y102.length co10, .bool false] 26 (0, 0))) := ⟨by (with_reducible repeat (first | refine blk_drewN ?_ _ | refine blk_drew ?_ | refine blk_alloc ?_ _)); refine blk_far ?_ (by have h_ := Kd.R_ne HO104.out BK105.out (by decide); intro e_; exact h_ (by rw [e_]; rfl)) _; (with_reducible repeat (first | refine blk_drewN ?_ _ | refine blk_drew ?_ | refine blk_alloc ?_ _)); exact BK105.out⟩
 have n3_ : Aside0 (Below w.heap.size w ((w15.drewN nd).setCell ⟨go6, (t106 : Int).toNat, none⟩ (.int .i64 1))) := ⟨by repeat (first | (with_reducible first | exact HB.out | apply below_alloc | apply pw_below_drewN | apply below_drew1 | refine below_set ?_ GB6.out | refine below_set ?_ (Aside0.out (by assumption))) | exact HB.out)⟩
 (try clear HO104); (try clear BK101); (try clear BK105); (try clear HB)
 generalize ((w15.drewN nd).setCell ⟨go6, (t106 : Int).toNat, none⟩ (.int .i64 1)) = w17 at n0_ n1_ n2_ n3_ ⊢
 have HO104 := n0_
 have BK101 := n1_
 have BK105 := n2_
 have HB := n3_
 clear n0_ n1_ n2_ n3_
 have hz18 := cellsZ6 BK105.out
 have hz19 := cellsZ6 BK101.out
 try go_wp2
 refine bodyPost_ret (results_cell_row rfl _ _ gb101 26 #[.int .i64 1, .int .i64 a0, .int .i64 a0, .int .i64 a0, .slice (some ⟨go6, 0, none⟩) y102.length co10, .bool false] (0, 0) _ rfl bkZ Try.underlying26 rfl (by kernel_rfl)) rfl ?_
 exact ⟨_, z674d, by (with_reducible repeat (first | apply Kd.R_alloc | apply Kd.R_drewN | apply Kd.R_drew)); exact Kd.R_mono (Kd.R_far (p := ⟨gb101, 5, none⟩) (Kd.R_far (p := ⟨gb101, 4, none⟩) (Kd.R_far (p := ⟨gb101, 3, none⟩) (Kd.R_far (p := ⟨gb101, 2, none⟩) (Kd.R_far (p := ⟨gb101, 1, none⟩) (Kd.R_far (p := ⟨gb101, 0, none⟩) (Kd.R_types HO104.out BK101.out (by decide)) (fun _ hk => hk.2) (.int .i64 1)) (fun _ hk => hk.2) (.int .i64 a0)) (fun _ hk => hk.2) (.int .i64 a0)) (fun _ hk => hk.2) (.int .i64 a0)) (fun _ hk => hk.2) (.slice (some ⟨go6, 0, none⟩) y102.length co10)) (fun _ hk => hk.2) (.bool false)) (fun _ hk => trivial), zcb41⟩
def spec_l1Cur_value.f (s0_0 : List Int) (s0_1 : Int) (s0_2 : Int) : Option (Int × Int × Int) := (spec_l1Cur_one.f s0_0 s0_1 s0_2 16).bind fun bt101 => (if bt101.1 = true then ((spec_l1Cur_among.f s0_0 bt101.2.1 bt101.2.2 (([1000000000, (-1000000000), 999999999] : List Int))).bind fun bt107 => (some (bt107.1, bt107.2.1, bt107.2.2))) else ((spec_l1Cur_among.f s0_0 bt101.2.1 bt101.2.2 (([0, 1, 9, 10, 99, 100, 1000, 99999, 100000, (-1), (-50), 7] : List Int))).bind fun bt113 => (some (bt113.1, bt113.2.1, bt113.2.2))))
theorem spec_l1Cur_value.calls (g : Nat) (s0_0 : List Int) (s0_1 : Int) (s0_2 : Int) (r1 : Int) (r2 : Int) (r3 : Int) (w0 w : World) (hI : IsS76 w0 w g s0_0 s0_1 s0_2) (hB : Below w0.heap.size w0 w) (h : spec_l1Cur_value.f s0_0 s0_1 s0_2 = some (r1, r2, r3)) :
 Calls Try.prog 99 #[.pointer (some ⟨g, 0, none⟩)] w fun e w' => e = .returned (.int .i64 r1) ∧ IsS76 w0 w' g s0_0 r2 r3 ∧ Below w0.heap.size w0 w' ∧ KeepBut w w' g none := by
 have HI0 := aM hI
 have HK := aM (KeepBut.refl w g none)
 have HL := aM hB.size
 clear hI
 have HW0 := aM hB.size
 have HB := aM hB
 clear hB
 have H : ((spec_l1Cur_one.f s0_0 s0_1 s0_2 16).bind fun bt101 => (if bt101.1 = true then ((spec_l1Cur_among.f s0_0 bt101.2.1 bt101.2.2 (([1000000000, (-1000000000), 999999999] : List Int))).bind fun bt107 => (some (bt107.1, bt107.2.1, bt107.2.2))) else ((spec_l1Cur_among.f s0_0 bt101.2.1 bt101.2.2 (([0, 1, 9, 10, 99, 100, 1000, 99999, 100000, (-1), (-50), 7] : List Int))).bind fun bt113 => (some (bt113.1, bt113.2.1, bt113.2.2))))) = some (r1, r2, r3) := h
 clear h
 obtain ⟨⟨t101, t102, t103⟩, A2, H⟩ := bS H; try dsimp only at H
 by_cases c3 : t101 = true
 · subst c3
   rw [if_pos rfl] at H
   obtain ⟨y104, hy104⟩ : ∃ y_ : List Int, y_ = (([1000000000, (-1000000000), 999999999] : List Int)) := ⟨_, rfl⟩
   first | (replace H := bindS H; rw [← hy104] at H; try dsimp only at H) | rw [← hy104] at H
   have Ny104 := aM hy104
   clear hy104
   obtain ⟨⟨t107, t108, t109⟩, A4, H⟩ := bS H; try dsimp only at H
   simp only [Option.some.injEq, Prod.mk.injEq] at H
   obtain ⟨rfl, rfl, rfl⟩ := H
   go_enter Try.func99, Try.ntmps99
   go_wp2_with (first | ((with_reducible refine gate_callee (f := 52) rfl ?_); refine gL 4 Try.func52 #[.pointer (some ⟨g, 0, none⟩), .int .i64 16] ?_; (with_reducible refine (spec_l1Cur_one.calls g s0_0 s0_1 s0_2 16 true t102 t103 w0 _ ?side1 ?side2 A2.out).mono ?_); (case side1 => exact z0f56); (case side2 => exact zc59d); rintro e w5 ⟨rfl, hi, hb, hk⟩; refine ⟨_, rfl, ?_⟩; have _ := aM (KeepBut.trans zcbec hk (.inl rfl)); have _ := aM hb; have _ := aM hi; clear HK HB HI0; rename_i HK HB HI0; (try clear hb); (try clear hk); (try clear hi)) | ((with_reducible refine gate_dst (N := 6) rfl ?_); refine Kd.R_lit (Kd.int .i64) _ 3 ?hg (N := 6) ?hd (xs := ([1000000000, (-1000000000), 999999999] : List Int)) (inner := [.int .i64 1000000000, .int .i64 (-1000000000), .int .i64 999999999]) (ok := fun _ => True) (okp := fun _ => True) ?hr ?hp (fun _ hk => hk) trivial (Below.refl _ _) (Nat.le_refl _) (by simp) ?_; (case hd => rfl); (case hg => rfl); (case hr => first | (go_simp; done) | (go_simp; rfl)); (case hp => exact (Reps.one (show Kd.M (Kd.int .i64) _ _ _ 1000000000 [.int .i64 1000000000] from rfl) (Reps.one (show Kd.M (Kd.int .i64) _ _ _ (-1000000000) [.int .i64 (-1000000000)] from rfl) (Reps.one (show Kd.M (Kd.int .i64) _ _ _ 999999999 [.int .i64 999999999] from rfl) (Reps.none _ _))))); intro v105 w6 ho7 hb hg_ hnew_; clear hg_ hnew_; (first | rw [← Ny104.out] at ho7 | (simp only [Int.reduceToNat] at ho7; rw [← Ny104.out] at ho7)); have _ := aM (Kd.R_lower ho7 (keep_size (w := w) (g := g) (row := none) zcbec)); have _ := aM (IsS76.below z0f56 hb); have _ := aM (KeepBut.trans zcbec (KeepBut.of_below hb g none) (.inl rfl)); have _ := aM (below_step zc59d hb); clear HI0 HK HB; rename_i HO106 HI0 HK HB; clear hb ho7; obtain ⟨Ao8, co8, eo8⟩ := Kd.R_slice HO106.out; subst eo8) | ((with_reducible refine gate_callee (f := 60) rfl ?_); refine gL 7 Try.func60 #[.pointer (some ⟨g, 0, none⟩), .slice Ao8 y104.length co8] ?_; (with_reducible refine (spec_l1Cur_among.calls g s0_0 t102 t103 _ _ y104 t107 t108 t109 w0 _ ?side1 ?side2 ?side3 ?side4 ?side5 A4.out).mono ?_); (case side1 => exact z0f56); (case side2 => exact zc59d); (case side3 => exact z3fd5); (case side4 => exact (Kd.R_reads' HO106.out).2.1); (case side5 => exact far_slice (IsS76.own_ne HI0.out HO106.out (by decide))); rintro e w9 ⟨rfl, hi, hb, hk⟩; refine ⟨_, rfl, ?_⟩; have _ := aM (Kd.R_mono (Kd.R_keep (IsS76.apart (show IsS76 w0 _ g s0_0 t102 t103 from by repeat (first | (with_reducible first | exact HI0.out | apply IsS76.alloc | apply IsS76.drewN | apply IsS76.drew | apply IsS76.set_1 | apply IsS76.set_2) | exact HI0.out)) (rZ HO106.out) (by decide)) hk (fun _ h => h.2)) (fun _ h => h.1)); have _ := aM (KeepBut.trans zcbec hk (.inl rfl)); have _ := aM hb; have _ := aM hi; clear HO106 HK HB HI0; rename_i HO106 HK HB HI0; (try clear hb); (try clear hk); (try clear hi)))
   go_ret
   exact ⟨z674d, z0f56, zc59d, zcbec⟩
 · replace c3 := Bool.eq_false_iff.mpr c3
   subst c3
   rw [if_neg (show ¬ (false = true) by decide)] at H
   obtain ⟨y110, hy110⟩ : ∃ y_ : List Int, y_ = (([0, 1, 9, 10, 99, 100, 1000, 99999, 100000, (-1), (-50), 7] : List Int)) := ⟨_, rfl⟩
   first | (replace H := bindS H; rw [← hy110] at H; try dsimp only at H) | rw [← hy110] at H
   have Ny110 := aM hy110
   clear hy110
   obtain ⟨⟨t113, t114, t115⟩, A10, H⟩ := bS H; try dsimp only at H
   simp only [Option.some.injEq, Prod.mk.injEq] at H
   obtain ⟨rfl, rfl, rfl⟩ := H
   go_enter Try.func99, Try.ntmps99
   go_wp2_with (first | ((with_reducible refine gate_callee (f := 52) rfl ?_); refine gL 4 Try.func52 #[.pointer (some ⟨g, 0, none⟩), .int .i64 16] ?_; (with_reducible refine (spec_l1Cur_one.calls g s0_0 s0_1 s0_2 16 false t102 t103 w0 _ ?side1 ?side2 A2.out).mono ?_); (case side1 => exact z0f56); (case side2 => exact zc59d); rintro e w11 ⟨rfl, hi, hb, hk⟩; refine ⟨_, rfl, ?_⟩; have _ := aM (KeepBut.trans zcbec hk (.inl rfl)); have _ := aM hb; have _ := aM hi; clear HK HB HI0; rename_i HK HB HI0; (try clear hb); (try clear hk); (try clear hi)) | ((with_reducible refine gate_dst (N := 9) rfl ?_); refine Kd.R_lit (Kd.int .i64) _ 3 ?hg (N := 9) ?hd (xs := ([0, 1, 9, 10, 99, 100, 1000, 99999, 100000, (-1), (-50), 7] : List Int)) (inner := [.int .i64 0, .int .i64 1, .int .i64 9, .int .i64 10, .int .i64 99, .int .i64 100, .int .i64 1000, .int .i64 99999, .int .i64 100000, .int .i64 (-1), .int .i64 (-50), .int .i64 7]) (ok := fun _ => True) (okp := fun _ => True) ?hr ?hp (fun _ hk => hk) trivial (Below.refl _ _) (Nat.le_refl _) (by simp) ?_; (case hd => rfl); (case hg => rfl); (case hr => first | (go_simp; done) | (go_simp; rfl)); (case hp => exact (Reps.one (show Kd.M (Kd.int .i64) _ _ _ 0 [.int .i64 0] from rfl) (Reps.one (show Kd.M (Kd.int .i64) _ _ _ 1 [.int .i64 1] from rfl) (Reps.one (show Kd.M (Kd.int .i64) _ _ _ 9 [.int .i64 9] from rfl) (Reps.one (show Kd.M (Kd.int .i64) _ _ _ 10 [.int .i64 10] from rfl) (Reps.one (show Kd.M (Kd.int .i64) _ _ _ 99 [.int .i64 99] from rfl) (Reps.one (show Kd.M (Kd.int .i64) _ _ _ 100 [.int .i64 100] from rfl) (Reps.one (show Kd.M (Kd.int .i64) _ _ _ 1000 [.int .i64 1000] from rfl) (Reps.one (show Kd.M (Kd.int .i64) _ _ _ 99999 [.int .i64 99999] from rfl) (Reps.one (show Kd.M (Kd.int .i64) _ _ _ 100000 [.int .i64 100000] from rfl) (Reps.one (show Kd.M (Kd.int .i64) _ _ _ (-1) [.int .i64 (-1)] from rfl) (Reps.one (show Kd.M (Kd.int .i64) _ _ _ (-50) [.int .i64 (-50)] from rfl) (Reps.one (show Kd.M (Kd.int .i64) _ _ _ 7 [.int .i64 7] from rfl) (Reps.none _ _)))))))))))))); intro v111 w12 ho13 hb hg_ hnew_; clear hg_ hnew_; (first | rw [← Ny110.out] at ho13 | (simp only [Int.reduceToNat] at ho13; rw [← Ny110.out] at ho13)); have _ := aM (Kd.R_lower ho13 (keep_size (w := w) (g := g) (row := none) zcbec)); have _ := aM (IsS76.below z0f56 hb); have _ := aM (KeepBut.trans zcbec (KeepBut.of_below hb g none) (.inl rfl)); have _ := aM (below_step zc59d hb); clear HI0 HK HB; rename_i HO112 HI0 HK HB; clear hb ho13; obtain ⟨Ao14, co14, eo14⟩ := Kd.R_slice HO112.out; subst eo14) | ((with_reducible refine gate_callee (f := 60) rfl ?_); refine gL 10 Try.func60 #[.pointer (some ⟨g, 0, none⟩), .slice Ao14 y110.length co14] ?_; (with_reducible refine (spec_l1Cur_among.calls g s0_0 t102 t103 _ _ y110 t113 t114 t115 w0 _ ?side1 ?side2 ?side3 ?side4 ?side5 A10.out).mono ?_); (case side1 => exact z0f56); (case side2 => exact zc59d); (case side3 => exact (by repeat (first | exact (Kd.R_reads' HO112.out).2.2 | (with_reducible refine Kd.C_alloc ?_ _) | (with_reducible refine Kd.C_drewN ?_ _) | (with_reducible refine Kd.C_drew ?_)))); (case side4 => exact (Kd.R_reads' HO112.out).2.1); (case side5 => exact far_slice (IsS76.own_ne HI0.out HO112.out (by decide))); rintro e w15 ⟨rfl, hi, hb, hk⟩; refine ⟨_, rfl, ?_⟩; have _ := aM (Kd.R_mono (Kd.R_keep (IsS76.apart (show IsS76 w0 _ g s0_0 t102 t103 from by repeat (first | (with_reducible first | exact HI0.out | apply IsS76.alloc | apply IsS76.drewN | apply IsS76.drew | apply IsS76.set_1 | apply IsS76.set_2) | exact HI0.out)) (rZ HO112.out) (by decide)) hk (fun _ h => h.2)) (fun _ h => h.1)); have _ := aM (KeepBut.trans zcbec hk (.inl rfl)); have _ := aM hb; have _ := aM hi; clear HO112 HK HB HI0; rename_i HO112 HK HB HI0; (try clear hb); (try clear hk); (try clear hi)))
   go_ret
   exact ⟨z674d, z0f56, zc59d, zcbec⟩
mutual
def spec_l1Cur_agg.l0 : Nat → Int → List Int → Int → Int → Int → Int → Int → Int → List Int → Bool → Option (Int × Int × Int × Int × List Int × Bool × Int × Int)
 | 0, _, _, _, _, _, _, _, _, _, _ => none
 | k + 1, x4, x1000, x1001, x1002, x111000, x111001, x111002, x111003, x111004, x111005 => if x4 > 0 then ((spec_l1Cur_value.f x1000 x1001 x1002).bind fun bt114 => ((spec_l4Of.f k bt114.1).bind fun bt117 => ((spec_l4Join.f k x111000 x111001 x111002 x111003 x111004 x111005 bt117.1 bt117.2.1 bt117.2.2.1 bt117.2.2.2.1 bt117.2.2.2.2.1 bt117.2.2.2.2.2).bind fun bt125 => (spec_l1Cur_agg.l0 k (wrap64 (x4 - 1)) x1000 bt114.2.1 bt114.2.2 bt125.1 bt125.2.1 bt125.2.2.1 bt125.2.2.2.1 bt125.2.2.2.2.1 bt125.2.2.2.2.2)))) else ((spec_l1Cur_one.f x1000 x1001 x1002 30).bind fun bt133 => (if bt133.1 = true then (spec_l1Cur_agg.j1 k (decide (x111000 > 0)) x1000 bt133.2.1 bt133.2.2 x111000 x111001 x111002 x111003 x111004 x111005) else (spec_l1Cur_agg.j1 k false x1000 bt133.2.1 bt133.2.2 x111000 x111001 x111002 x111003 x111004 x111005)))
def spec_l1Cur_agg.j1 : Nat → Bool → List Int → Int → Int → Int → Int → Int → Int → List Int → Bool → Option (Int × Int × Int × Int × List Int × Bool × Int × Int)
 | 0, _, _, _, _, _, _, _, _, _, _ => none
 | k + 1, x23, x1000, x1001, x1002, x111000, x111001, x111002, x111003, x111004, x111005 => if x23 = true then (if 3 < (x111004.length : Int) then ((some (x111004.set (3 : Int).toNat (wrap64 ((rd x111004 3) + (wrap64 (1000000000 - x111000)))) : List Int)).bind fun y137 => ((spec_GoodAgg.f k 1000000000 x111001 x111002 x111003 y137 x111005).bind fun t138 => (if t138 = true then (spec_l1Cur_agg.j2 k x1000 x1001 x1002 1000000000 x111001 x111002 x111003 y137 x111005) else (spec_l1Cur_agg.j2 k x1000 x1001 x1002 1000000000 x111001 x111002 x111003 (y137.set (3 : Int).toNat 0) x111005)))) else (none)) else (spec_l1Cur_agg.j2 k x1000 x1001 x1002 x111000 x111001 x111002 x111003 x111004 x111005)
def spec_l1Cur_agg.j2 : Nat → List Int → Int → Int → Int → Int → Int → Int → List Int → Bool → Option (Int × Int × Int × Int × List Int × Bool × Int × Int)
 | 0, _, _, _, _, _, _, _, _, _ => none
 | k + 1, x1000, x1001, x1002, x111000, x111001, x111002, x111003, x111004, x111005 => (spec_l1Cur_pick.f x1000 x1001 x1002 60).bind fun bt140 => (if bt140.1 = 0 then (if 1 ≤ (x111004.length : Int) then (some (x111000, x111001, x111002, x111003, (x111004.drop (1 : Int).toNat), x111005, bt140.2.1, bt140.2.2)) else (none)) else (if bt140.1 = 1 then (some (x111000, x111001, wrap64 (x111003 + 1), x111003, x111004, x111005, bt140.2.1, bt140.2.2)) else (if bt140.1 = 2 then (some (x111000, x111001, x111002, x111003, x111004, true, bt140.2.1, bt140.2.2)) else (if bt140.1 = 3 then (some (wrap64 (x111000 + 1), x111001, x111002, x111003, x111004, x111005, bt140.2.1, bt140.2.2)) else (some (x111000, x111001, x111002, x111003, x111004, x111005, bt140.2.1, bt140.2.2))))))
end
def spec_l1Cur_agg.f (k : Nat) (s0_0 : List Int) (s0_1 : Int) (s0_2 : Int) : Option (Int × Int × Int × Int × List Int × Bool × Int × Int) := (spec_l4Zero.f).bind fun bt102 => ((spec_l1Cur_pick.f s0_0 s0_1 s0_2 5).bind fun bt111 => (spec_l1Cur_agg.l0 k bt111.1 s0_0 bt111.2.1 bt111.2.2 bt102.1 bt102.2.1 bt102.2.2.1 bt102.2.2.2.1 bt102.2.2.2.2.1 bt102.2.2.2.2.2))
theorem spec_l1Cur_agg.mono_l : ∀ k, (∀ y0 y1 y2 y3 y4 y5 y6 y7 y8 y9, LeO (spec_l1Cur_agg.l0 k y0 y1 y2 y3 y4 y5 y6 y7 y8 y9) (spec_l1Cur_agg.l0 (k + 1) y0 y1 y2 y3 y4 y5 y6 y7 y8 y9)) ∧ (∀ y0 y1 y2 y3 y4 y5 y6 y7 y8 y9, LeO (spec_l1Cur_agg.j1 k y0 y1 y2 y3 y4 y5 y6 y7 y8 y9) (spec_l1Cur_agg.j1 (k + 1) y0 y1 y2 y3 y4 y5 y6 y7 y8 y9)) ∧ (∀ y0 y1 y2 y3 y4 y5 y6 y7 y8, LeO (spec_l1Cur_agg.j2 k y0 y1 y2 y3 y4 y5 y6 y7 y8) (spec_l1Cur_agg.j2 (k + 1) y0 y1 y2 y3 y4 y5 y6 y7 y8))
 | 0 => ⟨fun _ _ _ _ _ _ _ _ _ _ r h => by simp [spec_l1Cur_agg.l0] at h, fun _ _ _ _ _ _ _ _ _ _ r h => by simp [spec_l1Cur_agg.j1] at h, fun _ _ _ _ _ _ _ _ _ r h => by simp [spec_l1Cur_agg.j2] at h⟩
 | k + 1 => by
  obtain ⟨ih0, ih1, ih2⟩ := spec_l1Cur_agg.mono_l k; have m0 := @spec_GoodAgg.mono; have m1 := @spec_l4Join.mono; have m2 := @spec_l4Of.mono
  refine ⟨?_, ?_, ?_⟩
  · intro y0 y1 y2 y3 y4 y5 y6 y7 y8 y9
    unfold spec_l1Cur_agg.l0
    exact moZ
  · intro y0 y1 y2 y3 y4 y5 y6 y7 y8 y9
    unfold spec_l1Cur_agg.j1
    exact moZ
  · intro y0 y1 y2 y3 y4 y5 y6 y7 y8
    unfold spec_l1Cur_agg.j2
    exact moZ
theorem spec_l1Cur_agg.mono : ∀ a0 a1 a2 k, LeO (spec_l1Cur_agg.f k a0 a1 a2) (spec_l1Cur_agg.f (k + 1) a0 a1 a2) := by
 intro a0 a1 a2 k
 obtain ⟨ih0, ih1, ih2⟩ := spec_l1Cur_agg.mono_l k
 have m0 := @spec_GoodAgg.mono; have m1 := @spec_l4Join.mono; have m2 := @spec_l4Of.mono
 unfold spec_l1Cur_agg.f
 exact moZ
def spec_l1Cur_agg.T7 : Bool × List (List Nat × List Nat) := (true, [([], []), ([0], [0]), ([1], [1]), ([2], [2]), ([], []), ([4], [4]), ([5], [5]), ([3, 6], [3, 6]), ([1, 0, 1, 2, 3, 4, 5, 6, 7], [1]), ([8, 7, 0, 1, 2, 3, 4, 5, 6, 7], [7, 8])])
def spec_l1Cur_agg.B7 : List Nat := [0, 1, 3, 7, 0, 16, 48, 127, 255, 511]
theorem spec_l1Cur_agg.tab7 : rtab .any (opsOf Try.f85 7) = spec_l1Cur_agg.T7 := by kernel_rfl
theorem spec_l1Cur_agg.bits7 : waitsOk spec_l1Cur_agg.T7.2 spec_l1Cur_agg.B7 = true := by kernel_rfl
theorem spec_l1Cur_agg.calls (k : Nat) (g : Nat) (s0_0 : List Int) (s0_1 : Int) (s0_2 : Int) (r1 : Int) (r2 : Int) (r3 : Int) (r4 : Int) (r5 : List Int) (r6 : Bool) (r7 : Int) (r8 : Int) (w0 w : World) (hI : IsS76 w0 w g s0_0 s0_1 s0_2) (hB : Below w0.heap.size w0 w) (h : spec_l1Cur_agg.f k s0_0 s0_1 s0_2 = some (r1, r2, r3, r4, r5, r6, r7, r8)) :
 Calls Try.prog 85 #[.pointer (some ⟨g, 0, none⟩)] w fun e w' => ∃ v4_ : Value, e = .returned (.agg #[.int .i64 r1, .int .i64 r2, .int .i64 r3, .int .i64 r4, v4_, .bool r6]) ∧ Kd.Q (Kd.int .i64) 3 w' w.heap.size (fun _ => True) v4_ r5 ∧ IsS76 w0 w' g s0_0 r7 r8 ∧ Below w0.heap.size w0 w' ∧ KeepBut w w' g none := by
 have hu26 := Try.underlying26
 have HI0 := aM hI
 have HK := aM (KeepBut.refl w g none)
 have HL := aM hB.size
 clear hI
 have HW0 := aM hB.size
 have HB := aM hB
 clear hB
 have H : ((spec_l4Zero.f).bind fun bt102 => ((spec_l1Cur_pick.f s0_0 s0_1 s0_2 5).bind fun bt111 => (spec_l1Cur_agg.l0 k bt111.1 s0_0 bt111.2.1 bt111.2.2 bt102.1 bt102.2.1 bt102.2.2.1 bt102.2.2.2.1 bt102.2.2.2.2.1 bt102.2.2.2.2.2))) = some (r1, r2, r3, r4, r5, r6, r7, r8) := h
 clear h
 obtain ⟨⟨t102, t103, t104, t105, t106, t109⟩, A2, H⟩ := bS H; try dsimp only at H
 obtain ⟨⟨t111, t112, t113⟩, A3, H⟩ := bS H; try dsimp only at H
 have H' := aM H
 clear H
 go_enter Try.func85, Try.ntmps85
 go_wp2_with (first | ((with_reducible refine gate_dst (N := 2) rfl ?_); refine bX 2 26 #[.int .i64 0, .int .i64 0, .int .i64 0, .int .i64 0, .slice none 0 0, .bool false] ?_; intro gb101 hg w4 hbox hb; have _ := aM (IsS76.below z0f56 hb); have _ := aM (KeepBut.trans zcbec (KeepBut.of_below hb g none) (.inl rfl)); have _ := aM (below_step zc59d hb); have _ := aM hbox; have _ := aM ((by rw [hg]; exact (keep_size (w := w) (g := g) (row := none) zcbec) : w.heap.size ≤ gb101)); have _ := aM ((Nat.le_trans HW0.out (by rw [hg]; exact (keep_size (w := w) (g := g) (row := none) zcbec) : w.heap.size ≤ gb101) : w0.heap.size ≤ gb101)); have _ := aM ((by rw [hg]; exact Nat.ne_of_lt (IsS76.lt (show IsS76 w0 _ g s0_0 s0_1 s0_2 from by repeat (first | (with_reducible first | exact HI0.out | apply IsS76.alloc | apply IsS76.drewN | apply IsS76.drew | apply IsS76.set_1 | apply IsS76.set_2) | exact HI0.out))) : g ≠ gb101)); have _ := aM ((by rw [hg]; exact Nat.ne_of_gt (IsS76.lt (show IsS76 w0 _ g s0_0 s0_1 s0_2 from by repeat (first | (with_reducible first | exact HI0.out | apply IsS76.alloc | apply IsS76.drewN | apply IsS76.drew | apply IsS76.set_1 | apply IsS76.set_2) | exact HI0.out))) : gb101 ≠ g)); clear HI0 HK HB; rename_i HI0 HK HB BK101 GW101 GE101 NB0_101 NB101_0; clear hb hbox hg) | ((with_reducible refine gate_callee (f := 66) rfl ?_); refine gL 5 Try.func66 #[] ?_; (with_reducible refine (spec_l4Zero.calls  t102 t103 t104 t105 t106 t109 _ A2.out).mono ?_); rintro e w5 ⟨v107, rfl, ho0, hb⟩; refine ⟨_, rfl, ?_⟩; have _ := aM (Kd.R_lower ho0 (keep_size (w := w) (g := g) (row := none) z7c8e)); have _ := aM (IsS76.below z16b9 hb); have _ := bB gb101 hb; have _ := aM (KeepBut.trans z7c8e (KeepBut.of_below hb g none) (.inl rfl)); have _ := aM (below_step za8af hb); clear HI0 BK101 HK HB; rename_i HO108 HI0 BK101 HK HB; (try clear hb); (try clear ho0)) | ((with_reducible refine gate_dst (N := 3) rfl ?_); refine bX 3 26 #[.int .i64 0, .int .i64 0, .int .i64 0, .int .i64 0, .slice none 0 0, .bool false] ?_; intro gb110 hg w6 hbox hb; have _ := aM (Kd.R_below (rZ HO108.out) hb); have _ := aM (IsS76.below z16b9 hb); have _ := bB gb101 hb; have _ := aM (KeepBut.trans z7c8e (KeepBut.of_below hb g none) (.inl rfl)); have _ := aM (below_step za8af hb); have _ := aM hbox; have _ := aM ((by rw [hg]; exact (keep_size (w := w) (g := g) (row := none) z7c8e) : w.heap.size ≤ gb110)); have _ := aM ((Nat.le_trans HW0.out (by rw [hg]; exact (keep_size (w := w) (g := g) (row := none) z7c8e) : w.heap.size ≤ gb110) : w0.heap.size ≤ gb110)); have ⟨_, _⟩ := nbB gb101 hg; have _ := aM ((by rw [hg]; exact Nat.ne_of_lt (IsS76.lt (show IsS76 w0 _ g s0_0 s0_1 s0_2 from by repeat (first | (with_reducible first | exact HI0.out | apply IsS76.alloc | apply IsS76.drewN | apply IsS76.drew | apply IsS76.set_1 | apply IsS76.set_2 | refine IsS76.far ?_ (Aside0.out (by assumption)) _) | exact HI0.out))) : g ≠ gb110)); have _ := aM ((by rw [hg]; exact Nat.ne_of_gt (IsS76.lt (show IsS76 w0 _ g s0_0 s0_1 s0_2 from by repeat (first | (with_reducible first | exact HI0.out | apply IsS76.alloc | apply IsS76.drewN | apply IsS76.drew | apply IsS76.set_1 | apply IsS76.set_2 | refine IsS76.far ?_ (Aside0.out (by assumption)) _) | exact HI0.out))) : gb110 ≠ g)); clear HO108 HI0 BK101 HK HB; rename_i HO108 HI0 BK101 HK HB BK110 GW110 GE110 NB101_110 NB110_101 NB0_110 NB110_0; clear hb hbox hg; have hnb7 := NB110_101.out; have hnc7 := NB101_110.out; have hnb8 := NB110_0.out; have hnc8 := NB0_110.out; have hz9 := cellsZ6 BK110.out; obtain ⟨Ao10, co10, eo10⟩ := Kd.R_slice HO108.out; subst eo10) | ((with_reducible refine gate_callee (f := 53) rfl ?_); refine gL 7 Try.func53 #[.pointer (some ⟨g, 0, none⟩), .int .i64 5] ?_; (with_reducible refine (spec_l1Cur_pick.calls g s0_0 s0_1 s0_2 5 t111 t112 t113 w0 _ ?side1 ?side2 A3.out).mono ?_); (case side1 => exact z16b9); (case side2 => exact za8af); rintro e w11 ⟨rfl, hi, hb, hk⟩; refine ⟨_, rfl, ?_⟩; have _ := aM (KeepBut.blk hk (g' := gb101) bkZ NB101_0.out (by simp)); have _ := aM (Kd.R_mono (Kd.R_keep (IsS76.apart (show IsS76 w0 _ g s0_0 s0_1 s0_2 from by repeat (first | (with_reducible first | exact HI0.out | apply IsS76.alloc | apply IsS76.drewN | apply IsS76.drew | apply IsS76.set_1 | apply IsS76.set_2 | refine IsS76.far ?_ (Aside0.out (by assumption)) _) | exact HI0.out)) (rZ (rF6 HO108.out BK110.out)) (by decide)) hk (fun _ h => h.2)) (fun _ h => h.1)); have _ := aM (KeepBut.blk hk (g' := gb110) (o := .cells #[.int .i64 t102, .int .i64 t103, .int .i64 t104, .int .i64 t105, .slice Ao10 t106.length co10, .bool t109] 26 (0, 0)) bkZ NB110_0.out (by simp)); have _ := aM (KeepBut.trans z7c8e hk (.inl rfl)); have _ := aM hb; have _ := aM hi; clear BK101 HO108 BK110 HK HB HI0; rename_i BK101 HO108 BK110 HK HB HI0; (try clear hb); (try clear hk); (try clear hi)))
 go_loopg [4] k (fun kq v4 w' => ∃ (x4_1 : Int) (x1001_1 : Int) (x1002_1 : Int) (x111000_1 : Int) (x111001_1 : Int) (x111002_1 : Int) (x111003_1 : Int) (x111004_1 : List Int) (x111005_1 : Bool) (u111004 : Value), v4 = .int .i64 x4_1 ∧ Aside0 (spec_l1Cur_agg.l0 kq x4_1 s0_0 x1001_1 x1002_1 x111000_1 x111001_1 x111002_1 x111003_1 x111004_1 x111005_1 = some (r1, r2, r3, r4, r5, r6, r7, r8)) ∧ Aside0 (kq ≤ k) ∧ Aside0 (Kd.Q (Kd.int .i64) 3 w' w.heap.size (fun _ => True) u111004 x111004_1) ∧ Aside0 (w'.heap[gb101]? = some (.cells #[.int .i64 0, .int .i64 0, .int .i64 0, .int .i64 0, (.slice none 0 0), .bool false] 26 (0, 0))) ∧ Aside0 (w'.heap[gb110]? = some (.cells #[.int .i64 x111000_1, .int .i64 x111001_1, .int .i64 x111002_1, .int .i64 x111003_1, u111004, .bool x111005_1] 26 (0, 0))) ∧ Aside0 (IsS76 w0 w' g s0_0 x1001_1 x1002_1) ∧ Aside0 (KeepBut w w' g none) ∧ Aside0 (Below w0.heap.size w0 w'))
 case atStart => exact ⟨(t111), (t112), (t113), (t102), (t103), (t104), (t105), (t106), (t109), (.slice Ao10 t106.length co10), z4458, H', ⟨Nat.le_refl _⟩, ⟨Kd.Q_of_R (rZ HO108.out)⟩, ⟨bkZ⟩, ⟨bkZ⟩, ⟨z16b9⟩, ⟨z7c8e⟩, ⟨za8af⟩⟩
 case round =>
  clear H'
  (try clear hz9)
  obtain ⟨x4_1, x1001_1, x1002_1, x111000_1, x111001_1, x111002_1, x111003_1, x111004_1, x111005_1, u111004, rfl, HA, HK1, HO_111004, BK101, BK110, HI0, HK, HB⟩ := hrel
  cases gk with
  | zero => exact absurd HA.out (by simp [spec_l1Cur_agg.l0])
  | succ k1 =>
   have H := HA.out
   clear HA
   simp only [spec_l1Cur_agg.l0] at H
   by_cases c12 : x4_1 > 0
   · rw [if_pos c12] at H
     have c12b0 := dL c12
     clear c12
     obtain ⟨⟨t114, t115, t116⟩, A13, H⟩ := bS H; try dsimp only at H
     obtain ⟨⟨t117, t118, t119, t120, t121, t124⟩, A14, H⟩ := bS H; try dsimp only at H
     obtain ⟨⟨t125, t126, t127, t128, t129, t132⟩, A15, H⟩ := bS H; try dsimp only at H
     have H' := aM H
     clear H
     try go_wp2
     have _ := aM (Kd.Q_drew HO_111004.out)
     have _ := aM (blk_drew BK101.out)
     have _ := aM (blk_drew BK110.out)
     have _ := aM (IsS76.drew HI0.out)
     have _ := aM (keep_drew HK.out)
     have _ := aM (below_drew1 HB.out)
     clear HO_111004
     clear BK101
     clear BK110
     clear HI0
     clear HK
     clear HB
     rename_i HO_111004 BK101 BK110 HI0 HK HB
     refine start_ (n := 6) (S := fun w' => w'.cell? ⟨gb110, 0, none⟩ = some (.int .i64 x111000_1) ∧ w'.cell? ⟨gb110, 1, none⟩ = some (.int .i64 x111001_1) ∧ w'.cell? ⟨gb110, 2, none⟩ = some (.int .i64 x111002_1) ∧ w'.cell? ⟨gb110, 3, none⟩ = some (.int .i64 x111003_1) ∧ w'.cell? ⟨gb110, 4, none⟩ = some (u111004) ∧ w'.cell? ⟨gb110, 5, none⟩ = some (.bool x111005_1)) (ds := [5]) #[false, false, false, false, false, false] (by kernel_rfl) rfl rfl ⟨(blk_cell BK110.out 0).trans rfl, (blk_cell BK110.out 1).trans rfl, (blk_cell BK110.out 2).trans rfl, (blk_cell BK110.out 3).trans rfl, (blk_cell BK110.out 4).trans rfl, (blk_cell BK110.out 5).trans rfl⟩ (fun hHeld => ?_)
     generalize wr.drew = w16 at HO_111004 BK101 BK110 HI0 HK HB hHeld ⊢
     refine pure_ (i := 1) (N := some 13) (v := ?_) (a' := ?_) #[false, true, false, false, false, false] rfl rfl (by kernel_rfl) (fun _ _ _ h => h) (Or.inl ⟨by rfl, ?_⟩) ?_ ?_
     rotate_left
     · intro w'
       go_simp
       with_reducible rfl
     rotate_left
     · simp only [Act.put, List.setIfInBounds_toArray, List.set_cons_zero, List.set_cons_succ, i64_w, i32_w]
       rfl
     refine take_ (i := 0) (N := some 12) (v := ?_) (a' := ?_) #[true, true, false, false, false, false] rfl rfl (by kernel_rfl) (fun _ _ _ h => h) (Or.inl ⟨by rfl, ?_⟩) hHeld ?_ ?_
     rotate_left
     · rintro w' ⟨s0, s1, s2, s3, s4, s5⟩
       go_simp
       with_reducible rfl
     rotate_left
     · simp only [Act.put, List.setIfInBounds_toArray, List.set_cons_zero, List.set_cons_succ, i64_w, i32_w]
       rfl
     refine one_ (i := 2) (N := some 14) #[true, true, true, false, false, false] rfl rfl (by kernel_rfl) (by decide) (fun K hK => ?_)
     refine goes_ Try.func99 (by kernel_rfl) rfl #[.pointer (some ⟨g, 0, none⟩)] (by rfl) rfl rfl zee81 ?_
     with_reducible refine (spec_l1Cur_value.calls g s0_0 x1001_1 x1002_1 t114 t115 t116 w0 _ ?side1 ?side2 A13.out).mono ?_
     (case side1 => exact z16b9)
     (case side2 => exact za8af)
     rintro e w17 ⟨rfl, hi, hb, hk⟩
     refine ⟨_, rfl, ?_⟩
     have _ := aM (Kd.Q_mono (Kd.Q_keep (IsS76.apartQ (show IsS76 w0 _ g s0_0 x1001_1 x1002_1 from by repeat (first | (with_reducible first | exact HI0.out | apply IsS76.alloc | apply IsS76.drewN | apply IsS76.drew | apply IsS76.set_1 | apply IsS76.set_2 | refine IsS76.far ?_ (Aside0.out (by assumption)) _) | exact HI0.out)) (kZ HO_111004.out) (by decide)) hk (fun _ h => h.2)) (fun _ h => h.1))
     have _ := aM (KeepBut.blk hk (g' := gb101) bkZ NB101_0.out (by simp))
     have _ := aM (KeepBut.blk hk (g' := gb110) bkZ NB110_0.out (by simp))
     have _ := aM (KeepBut.trans z7c8e hk (.inl rfl))
     have _ := aM hb
     have _ := aM hi
     clear HO_111004
     clear BK101
     clear BK110
     clear HK
     clear HB
     clear HI0
     rename_i HO_111004 BK101 BK110 HK HB HI0
     (try clear hb); (try clear hk); (try clear hi)
     refine hK.out _ _ sZ (fun hHeld => ?_)
     clear hK K
     refine nA 14 ?_
     refine one_ (i := 3) (N := some 15) #[true, true, true, true, false, false] rfl rfl (by kernel_rfl) (by decide) (fun K hK => ?_)
     refine goes_ Try.func98 (by kernel_rfl) rfl #[.int .i64 t114] (by rfl) rfl rfl zee81 ?_
     with_reducible refine (spec_l4Of.calls k1 t114 t117 t118 t119 t120 t121 t124 _ A14.out).mono ?_
     rintro e w18 ⟨v122, rfl, ho0, hb⟩
     refine ⟨_, rfl, ?_⟩
     have _ := aM (Kd.Q_elder' (kZ HO_111004.out) (Kd.R_base ho0) hb)
     have _ := aM (Kd.R_lower (Kd.R_new' ho0 (Kd.Q_lt (kZ HO_111004.out))) (keep_size (w := w) (g := g) (row := none) z7c8e))
     have _ := bB gb101 hb
     have _ := bB gb110 hb
     have _ := aM (IsS76.below z16b9 hb)
     have _ := aM (KeepBut.trans z7c8e (KeepBut.of_below hb g none) (.inl rfl))
     have _ := aM (below_step za8af hb)
     clear HO_111004
     clear BK101
     clear BK110
     clear HI0
     clear HK
     clear HB
     rename_i HO_111004 HO123 BK101 BK110 HI0 HK HB
     (try clear hb); (try clear ho0)
     obtain ⟨Ao19, co19, eo19, _⟩ := Kd.Q_slice HO_111004.out
     (first | subst eo19 | (injection eo19 with f1_ f2_ f3_; have f4_ := f1_.symm; have f5_ := f3_.symm; clear f1_ f2_ f3_; subst f4_; subst f5_))
     obtain ⟨Ao20, co20, eo20⟩ := Kd.R_slice HO123.out
     (first | subst eo20 | (injection eo20 with f1_ f2_ f3_; have f4_ := f1_.symm; have f5_ := f3_.symm; clear f1_ f2_ f3_; subst f4_; subst f5_))
     refine hK.out _ _ sZ (fun hHeld => ?_)
     clear hK K
     refine nA 15 ?_
     refine one_ (i := 4) (N := some 16) #[true, true, true, true, true, false] rfl rfl (by kernel_rfl) (by decide) (fun K hK => ?_)
     refine goes_ Try.func68 (by kernel_rfl) rfl #[.agg #[.int .i64 x111000_1, .int .i64 x111001_1, .int .i64 x111002_1, .int .i64 x111003_1, .slice Ao19 x111004_1.length co19, .bool x111005_1], .agg #[.int .i64 t117, .int .i64 t118, .int .i64 t119, .int .i64 t120, .slice Ao20 t121.length co20, .bool t124]] (by rfl) rfl rfl zee81 ?_
     with_reducible refine (spec_l4Join.calls k1 x111000_1 x111001_1 x111002_1 x111003_1 _ _ x111004_1 x111005_1 t117 t118 t119 t120 _ _ t121 t124 t125 t126 t127 t128 t129 t132 _ ?side1 ?side2 ?side3 ?side4 A15.out).mono ?_
     (case side1 => exact (by repeat (first | exact (Kd.Q_reads' HO_111004.out).2.2 | (with_reducible refine Kd.C_alloc ?_ _) | (with_reducible refine Kd.C_drewN ?_ _) | (with_reducible refine Kd.C_drew ?_))))
     (case side2 => exact (Kd.Q_reads' HO_111004.out).2.1)
     (case side3 => exact (by repeat (first | exact (Kd.R_reads' HO123.out).2.2 | (with_reducible refine Kd.C_alloc ?_ _) | (with_reducible refine Kd.C_drewN ?_ _) | (with_reducible refine Kd.C_drew ?_))))
     (case side4 => exact (Kd.R_reads' HO123.out).2.1)
     rintro e w21 ⟨v130, rfl, ho0, hb⟩
     refine ⟨_, rfl, ?_⟩
     have _ := aM (Kd.Q_elder' (kZ HO_111004.out) (Kd.R_base ho0) hb)
     have _ := aM (Kd.R_elder' (rZ HO123.out) (Kd.R_base ho0) hb)
     have _ := aM (Kd.R_lower (Kd.R_new' (Kd.R_new' ho0 (Kd.Q_lt (kZ HO_111004.out))) (Kd.R_lt (rZ HO123.out))) (keep_size (w := w) (g := g) (row := none) z7c8e))
     have _ := bB gb101 hb
     have _ := bB gb110 hb
     have _ := aM (IsS76.below z16b9 hb)
     have _ := aM (KeepBut.trans z7c8e (KeepBut.of_below hb g none) (.inl rfl))
     have _ := aM (below_step za8af hb)
     clear HO_111004
     clear HO123
     clear BK101
     clear BK110
     clear HI0
     clear HK
     clear HB
     rename_i HO_111004 HO123 HO131 BK101 BK110 HI0 HK HB
     (try clear hb); (try clear ho0)
     obtain ⟨Ao26, co26, eo26⟩ := Kd.R_slice HO131.out
     (first | subst eo26 | (injection eo26 with f1_ f2_ f3_; have f4_ := f1_.symm; have f5_ := f3_.symm; clear f1_ f2_ f3_; subst f4_; subst f5_))
     refine hK.out _ _ sZ (fun hHeld => ?_)
     clear hK K
     refine nA 16 ?_
     refine last_ (i := 5) (N := none) #[true, true, true, true, true, true] rfl rfl (by kernel_rfl) (by decide) (fun K hK => ?_)
     have hs22 : w21.cell? ⟨gb110, 0, none⟩ = some (.int .i64 x111000_1) := (blk_cell BK110.out 0).trans rfl
     have hfs22 := blk_frozen BK110.out 0
     have hns22_0 := NB101_110.out
     have hms22_0 := NB110_101.out
     have hs23 : w21.cell? ⟨gb110, 1, none⟩ = some (.int .i64 x111001_1) := (blk_cell BK110.out 1).trans rfl
     have hfs23 := blk_frozen BK110.out 1
     have hns23_0 := NB101_110.out
     have hms23_0 := NB110_101.out
     have hs24 : w21.cell? ⟨gb110, 2, none⟩ = some (.int .i64 x111002_1) := (blk_cell BK110.out 2).trans rfl
     have hfs24 := blk_frozen BK110.out 2
     have hns24_0 := NB101_110.out
     have hms24_0 := NB110_101.out
     have hs25 : w21.cell? ⟨gb110, 3, none⟩ = some (.int .i64 x111003_1) := (blk_cell BK110.out 3).trans rfl
     have hfs25 := blk_frozen BK110.out 3
     have hns25_0 := NB101_110.out
     have hms25_0 := NB110_101.out
     have hs27 : w21.cell? ⟨gb110, 4, none⟩ = some (.slice Ao19 x111004_1.length co19) := (blk_cell BK110.out 4).trans rfl
     have hfs27 := blk_frozen BK110.out 4
     have hns27_0 := NB101_110.out
     have hms27_0 := NB110_101.out
     have hs28 : w21.cell? ⟨gb110, 5, none⟩ = some (.bool x111005_1) := (blk_cell BK110.out 5).trans rfl
     have hfs28 := blk_frozen BK110.out 5
     have hns28_0 := NB101_110.out
     have hms28_0 := NB110_101.out
     refine skip_ (w1 := ?_) (by rfl) rfl ?_ ?_
     rotate_left
     · go_simp
       rfl
     refine hK.out _ _ ?_
     clear hK K
     refine done_ (by kernel_rfl) ?_
     try go_wp2
     go_roundg k1
     case measure => have := HK1.out; omega
     case rel => exact ⟨(wrap64 (x4_1 - 1)), (t115), (t116), (t125), (t126), (t127), (t128), (t129), (t132), (.slice Ao26 t129.length co26), z4458, H', ⟨zfb39⟩, ⟨Kd.Q_of_R (by (with_reducible repeat (first | apply Kd.R_alloc | apply Kd.R_drewN | apply Kd.R_drew)); exact Kd.R_mono (Kd.R_far (p := ⟨gb110, 5, none⟩) (Kd.R_far (p := ⟨gb110, 4, none⟩) (Kd.R_far (p := ⟨gb110, 3, none⟩) (Kd.R_far (p := ⟨gb110, 2, none⟩) (Kd.R_far (p := ⟨gb110, 1, none⟩) (Kd.R_far (p := ⟨gb110, 0, none⟩) (Kd.R_types HO131.out BK110.out (by decide)) (fun _ hk => hk.2) (.int .i64 t125)) (fun _ hk => hk.2) (.int .i64 t126)) (fun _ hk => hk.2) (.int .i64 t127)) (fun _ hk => hk.2) (.int .i64 t128)) (fun _ hk => hk.2) (.slice Ao26 t129.length co26)) (fun _ hk => hk.2) (.bool t132)) (fun _ hk => trivial))⟩, ⟨bkZ⟩, ⟨bkZ⟩, ⟨z16b9⟩, ⟨z7c8e⟩, ⟨za8af⟩⟩
   · rw [if_neg c12] at H
     have c12b0 := nL c12
     clear c12
     have HC29 := aM H
     clear H
     go_upto_region 6 with (fail)
     go_cut [23] (fun v23 wc => ∃ (kq : Nat) (x23_28 : Bool) (x1001_28 : Int) (x1002_28 : Int), v23 = .bool x23_28 ∧ Aside0 (spec_l1Cur_agg.j1 kq x23_28 s0_0 x1001_28 x1002_28 x111000_1 x111001_1 x111002_1 x111003_1 x111004_1 x111005_1 = some (r1, r2, r3, r4, r5, r6, r7, r8)) ∧ Aside0 (kq ≤ k1) ∧ Aside0 (Kd.Q (Kd.int .i64) 3 wc w.heap.size (fun _ => True) u111004 x111004_1) ∧ Aside0 (wc.heap[gb101]? = some (.cells #[.int .i64 0, .int .i64 0, .int .i64 0, .int .i64 0, (.slice none 0 0), .bool false] 26 (0, 0))) ∧ Aside0 (wc.heap[gb110]? = some (.cells #[.int .i64 x111000_1, .int .i64 x111001_1, .int .i64 x111002_1, .int .i64 x111003_1, u111004, .bool x111005_1] 26 (0, 0))) ∧ Aside0 (IsS76 w0 wc g s0_0 x1001_28 x1002_28) ∧ Aside0 (KeepBut w wc g none) ∧ Aside0 (Below w0.heap.size w0 wc))
     case first =>
      have H := HC29.out
      clear HC29
      obtain ⟨⟨t133, t134, t135⟩, A30, H⟩ := bS H; try dsimp only at H
      by_cases c31 : t133 = true
      · subst c31
        rw [if_pos rfl] at H
        have H' := aM H
        clear H
        go_wp2_with (first | ((with_reducible refine gate_callee (f := 52) rfl ?_); refine gL 18 Try.func52 #[.pointer (some ⟨g, 0, none⟩), .int .i64 30] ?_; (with_reducible refine (spec_l1Cur_one.calls g s0_0 x1001_1 x1002_1 30 true t134 t135 w0 _ ?side1 ?side2 A30.out).mono ?_); (case side1 => exact z16b9); (case side2 => exact za8af); rintro e w32 ⟨rfl, hi, hb, hk⟩; refine ⟨_, rfl, ?_⟩; have _ := aM (Kd.Q_mono (Kd.Q_keep (IsS76.apartQ (show IsS76 w0 _ g s0_0 x1001_1 x1002_1 from by repeat (first | (with_reducible first | exact HI0.out | apply IsS76.alloc | apply IsS76.drewN | apply IsS76.drew | apply IsS76.set_1 | apply IsS76.set_2 | refine IsS76.far ?_ (Aside0.out (by assumption)) _) | exact HI0.out)) (kZ HO_111004.out) (by decide)) hk (fun _ h => h.2)) (fun _ h => h.1)); have _ := aM (KeepBut.blk hk (g' := gb101) bkZ NB101_0.out (by simp)); have _ := aM (KeepBut.blk hk (g' := gb110) bkZ NB110_0.out (by simp)); have _ := aM (KeepBut.trans z7c8e hk (.inl rfl)); have _ := aM hb; have _ := aM hi; clear HO_111004 BK101 BK110 HK HB HI0; rename_i HO_111004 BK101 BK110 HK HB HI0; (try clear hb); (try clear hk); (try clear hi); have hnb33 := NB110_101.out; have hnc33 := NB101_110.out; have hnb34 := NB110_0.out; have hnc34 := NB0_110.out; have hz35 := cellsZ6 BK110.out))
        go_meet
        case rel => exact ⟨_, (decide (x111000_1 > 0)), (t134), (t135), z4458, H', ⟨ze59a⟩, ⟨kZ HO_111004.out⟩, ⟨bkZ⟩, ⟨bkZ⟩, ⟨z16b9⟩, ⟨z7c8e⟩, ⟨za8af⟩⟩
      · replace c31 := Bool.eq_false_iff.mpr c31
        subst c31
        rw [if_neg (show ¬ (false = true) by decide)] at H
        have H' := aM H
        clear H
        go_wp2_with (first | ((with_reducible refine gate_callee (f := 52) rfl ?_); refine gL 18 Try.func52 #[.pointer (some ⟨g, 0, none⟩), .int .i64 30] ?_; (with_reducible refine (spec_l1Cur_one.calls g s0_0 x1001_1 x1002_1 30 false t134 t135 w0 _ ?side1 ?side2 A30.out).mono ?_); (case side1 => exact z16b9); (case side2 => exact za8af); rintro e w36 ⟨rfl, hi, hb, hk⟩; refine ⟨_, rfl, ?_⟩; have _ := aM (Kd.Q_mono (Kd.Q_keep (IsS76.apartQ (show IsS76 w0 _ g s0_0 x1001_1 x1002_1 from by repeat (first | (with_reducible first | exact HI0.out | apply IsS76.alloc | apply IsS76.drewN | apply IsS76.drew | apply IsS76.set_1 | apply IsS76.set_2 | refine IsS76.far ?_ (Aside0.out (by assumption)) _) | exact HI0.out)) (kZ HO_111004.out) (by decide)) hk (fun _ h => h.2)) (fun _ h => h.1)); have _ := aM (KeepBut.blk hk (g' := gb101) bkZ NB101_0.out (by simp)); have _ := aM (KeepBut.blk hk (g' := gb110) bkZ NB110_0.out (by simp)); have _ := aM (KeepBut.trans z7c8e hk (.inl rfl)); have _ := aM hb; have _ := aM hi; clear HO_111004 BK101 BK110 HK HB HI0; rename_i HO_111004 BK101 BK110 HK HB HI0; (try clear hb); (try clear hk); (try clear hi)))
        go_meet
        case rel => exact ⟨_, (false), (t134), (t135), z4458, H', ⟨ze59a⟩, ⟨kZ HO_111004.out⟩, ⟨bkZ⟩, ⟨bkZ⟩, ⟨z16b9⟩, ⟨z7c8e⟩, ⟨za8af⟩⟩
     case rest =>
      clear HC29
      (try clear c12b0)
      obtain ⟨kq, x23_28, x1001_28, x1002_28, rfl, HA, HJ28, HO_111004, BK101, BK110, HI0, HK, HB⟩ := hcut
      cases kq with
      | zero => exact absurd HA.out (by simp [spec_l1Cur_agg.j1])
      | succ kj28 =>
       have H := HA.out
       clear HA
       simp only [spec_l1Cur_agg.j1] at H
       have HC37 := aM H
       clear H
       go_upto_if 23 with (fail)
       go_cut [] (fun wc => ∃ (kq : Nat) (x111000_36 : Int) (x111004_36 : List Int) (u111004 : Value), Aside0 (spec_l1Cur_agg.j2 kq s0_0 x1001_28 x1002_28 x111000_36 x111001_1 x111002_1 x111003_1 x111004_36 x111005_1 = some (r1, r2, r3, r4, r5, r6, r7, r8)) ∧ Aside0 (kq ≤ kj28) ∧ Aside0 (Kd.Q (Kd.int .i64) 3 wc w.heap.size (fun _ => True) u111004 x111004_36) ∧ Aside0 (wc.heap[gb101]? = some (.cells #[.int .i64 0, .int .i64 0, .int .i64 0, .int .i64 0, (.slice none 0 0), .bool false] 26 (0, 0))) ∧ Aside0 (wc.heap[gb110]? = some (.cells #[.int .i64 x111000_36, .int .i64 x111001_1, .int .i64 x111002_1, .int .i64 x111003_1, u111004, .bool x111005_1] 26 (0, 0))) ∧ Aside0 (IsS76 w0 wc g s0_0 x1001_28 x1002_28) ∧ Aside0 (KeepBut w wc g none) ∧ Aside0 (Below w0.heap.size w0 wc))
       case first =>
        have H := HC37.out
        clear HC37
        by_cases c38 : x23_28 = true
        · subst c38
          rw [if_pos rfl] at H
          replace H := ifS H; obtain ⟨c39, H⟩ := H
          have c39b0 : decide (3 < (x111004_1.length : Int)) = true := decide_eq_true c39
          have c39b1 : decide (3 < x111004_1.length) = true := decide_eq_true (by omega)
          clear c39
          (first | rw [c39b0] | (simp only [i64_w, i32_w]; rw [c39b0]) | skip)
          obtain ⟨y137, hy137⟩ : ∃ y_ : List Int, y_ = (x111004_1.set (3 : Int).toNat (wrap64 ((rd x111004_1 3) + (wrap64 (1000000000 - x111000_1))))) := ⟨_, rfl⟩
          first | (replace H := bindS H; rw [← hy137] at H; try dsimp only at H) | rw [← hy137] at H
          have Ny137 := aM hy137
          clear hy137
          obtain ⟨t138, A41, H⟩ := bS H; try dsimp only at H
          by_cases c42 : t138 = true
          · subst c42
            rw [if_pos rfl] at H
            have H' := aM H
            clear H
            try go_wp2
            have _ := aM (Kd.Q_drew HO_111004.out)
            have _ := aM (blk_drew BK101.out)
            have _ := aM (blk_drew BK110.out)
            have _ := aM (IsS76.drew HI0.out)
            have _ := aM (keep_drew HK.out)
            have _ := aM (below_drew1 HB.out)
            clear HO_111004
            clear BK101
            clear BK110
            clear HI0
            clear HK
            clear HB
            rename_i HO_111004 BK101 BK110 HI0 HK HB
            obtain ⟨Ao44, co44, eo44, _⟩ := Kd.Q_slice HO_111004.out
            (first | subst eo44 | (injection eo44 with f1_ f2_ f3_; have f4_ := f1_.symm; have f5_ := f3_.symm; clear f1_ f2_ f3_; subst f4_; subst f5_))
            have p136 : 0 ≤ (3 : Int) := (by omega)
            have q136 : 3 < (x111004_1.length : Int) := of_decide_eq_true z1200
            obtain ⟨ad136, e136, hx136_0⟩ := Kd.at_int (Kd.Q_reads' HO_111004.out).2.2 3 p136 q136
            cases e136
            (try simp only [show (3 : Int).toNat = 3 from rfl, Nat.reduceMul, Nat.reduceEqDiff, Go.Addr.add, ↓reduceIte] at hx136_0)
            have qi136 : (3 < x111004_1.length) = True := eq_true (by omega)
            (try rw [show ((3 : Int)).toNat = 3 from rfl] at hx136_0)
            replace p136 := eq_true p136
            replace q136 := eq_true q136
            have p40 : 0 ≤ (3 : Int) := (by omega)
            have q40 : (3 : Int) < ((x111004_1.length : Int) : Int) := of_decide_eq_true z1200
            have qi40 : (3 < x111004_1.length) = True := eq_true (by omega)
            obtain ⟨go40, oo40, co40, eo40, gb40, gl40, cl40, HG40⟩ := Kd.Q_form HO_111004.out (by omega)
            (first | cases eo40 | (injection eo40 with ea_ en_ ec_; (first | subst ea_ | (injection ea_ with ea_; subst ea_)); subst ec_; clear en_))
            have GB40 := aM gb40
            have GG40 := aM HG40
            clear gb40 gl40 HG40
            (first | simp only [add_at] at hx136_0 | skip)
            obtain ⟨hx40_0, hf40_0⟩ := Kd.Q_cell 0 HO_111004.out (3 : Int) p40 q40
            (try rw [show ((3 : Int)).toNat = 3 from rfl] at hx40_0)
            (try simp only [Nat.reduceMul, Nat.zero_mul, Nat.zero_add, Nat.reduceAdd] at hx40_0)
            (try rw [show ((3 : Int)).toNat = 3 from rfl] at hf40_0)
            (try simp only [Nat.reduceMul, Nat.zero_mul, Nat.zero_add, Nat.reduceAdd] at hf40_0)
            replace p40 := eq_true p40
            replace q40 := eq_true q40
            have HN0_go40 := aM (show g ≠ go40 from by have h_ := IsS76.own_neQ HI0.out HO_111004.out (by decide); intro e_; exact h_ (by rw [e_]; rfl))
            have HP45 := (Kd.Q_putg HO_111004.out (3 : Int) (by omega) (by have h_ : (3 : Int) < ((x111004_1.length : Int) : Int) := of_decide_eq_true z1200; first | exact h_ | (have e_ := (Kd.Q_reads' HO_111004.out).1; omega) | simpa using h_) (wrap64 ((rd x111004_1 3) + (wrap64 (1000000000 - x111000_1))))).1
            rw [← Ny137.out] at HP45
            have HQ45 := aM HP45
            clear HP45
            refine sA 10 spec_l1Cur_agg.tab7 spec_l1Cur_agg.bits7 (fun w' => w'.cell? ⟨gb110, 0, none⟩ = some (.int .i64 x111000_1) ∧ w'.cell? ⟨gb110, 1, none⟩ = some (.int .i64 x111001_1) ∧ w'.cell? ⟨gb110, 2, none⟩ = some (.int .i64 x111002_1) ∧ w'.cell? ⟨gb110, 3, none⟩ = some (.int .i64 x111003_1) ∧ w'.cell? ⟨gb110, 4, none⟩ = some (.slice (some ⟨go40, oo40, none⟩) x111004_1.length co44) ∧ w'.cell? ⟨gb110, 5, none⟩ = some (.bool x111005_1) ∧ w'.cell? ⟨go40, oo40 + 3, none⟩ = some (.int .i64 (rd x111004_1 3))) [9] (fun hHeld HT_ HW_ => ?_)
            generalize wc.drew = w43 at HO_111004 BK101 BK110 HI0 HK HB GG40 HQ45 hf40_0 hx136_0 hx40_0 hHeld ⊢
            refine pA 0 24 HT_ ?_; refine pA 4 28 HT_ ?_; refine tA 1 25 HT_ HW_ hHeld ?_; refine pA 2 26 HT_ ?_; refine tA 3 27 HT_ HW_ hHeld ?_; refine tA 5 29 HT_ HW_ hHeld ?_; refine pA 6 30 HT_ ?_; refine pA 7 31 HT_ ?_; refine pA 8 32 HT_ ?_
            refine last_ (i := 9) (N := none) #[true, true, true, true, true, true, true, true, true, true] rfl rfl (one_of HT_.out (by kernel_rfl)) (by decide) (fun K hK => ?_)
            refine skip_ (w1 := ?_) (by rfl) rfl ?_ ?_
            rotate_left
            · go_simp
              rfl
            refine hK.out _ _ ?_
            clear hK K
            refine done_ (done_of HT_.out (by kernel_rfl)) ?_
            have n0_ : Aside0 (Kd.Q (Kd.int .i64) 3 (w43.setCell ⟨go40, oo40 + 3, none⟩ (.int .i64 (wrap64 ((rd x111004_1 3) + (wrap64 (1000000000 - x111000_1)))))) w.heap.size (fun _ => True) (.slice (some ⟨go40, oo40, none⟩) x111004_1.length co44) y137) := ⟨kZ HQ45.out⟩
            have n1_ : Aside0 ((w43.setCell ⟨go40, oo40 + 3, none⟩ (.int .i64 (wrap64 ((rd x111004_1 3) + (wrap64 (1000000000 - x111000_1)))))).heap[gb101]? = some (.cells #[.int .i64 0, .int .i64 0, .int .i64 0, .int .i64 0, .slice none 0 0, .bool false] 26 (0, 0))) := ⟨by (with_reducible repeat (first | refine blk_drewN ?_ _ | refine blk_drew ?_ | refine blk_alloc ?_ _)); refine blk_far ?_ (by have h_ := Kd.Q_ne HO_111004.out BK101.out (by decide); intro e_; exact h_ (by rw [e_]; rfl)) _; (with_reducible repeat (first | refine blk_drewN ?_ _ | refine blk_drew ?_ | refine blk_alloc ?_ _)); exact BK101.out⟩
            have n2_ : Aside0 ((w43.setCell ⟨go40, oo40 + 3, none⟩ (.int .i64 (wrap64 ((rd x111004_1 3) + (wrap64 (1000000000 - x111000_1)))))).heap[gb110]? = some (.cells #[.int .i64 x111000_1, .int .i64 x111001_1, .int .i64 x111002_1, .int .i64 x111003_1, .slice (some ⟨go40, oo40, none⟩) x111004_1.length co44, .bool x111005_1] 26 (0, 0))) := ⟨by (with_reducible repeat (first | refine blk_drewN ?_ _ | refine blk_drew ?_ | refine blk_alloc ?_ _)); refine blk_far ?_ (by have h_ := Kd.Q_ne HO_111004.out BK110.out (by decide); intro e_; exact h_ (by rw [e_]; rfl)) _; (with_reducible repeat (first | refine blk_drewN ?_ _ | refine blk_drew ?_ | refine blk_alloc ?_ _)); exact BK110.out⟩
            have n3_ : Aside0 (IsS76 w0 (w43.setCell ⟨go40, oo40 + 3, none⟩ (.int .i64 (wrap64 ((rd x111004_1 3) + (wrap64 (1000000000 - x111000_1)))))) g s0_0 x1001_28 x1002_28) := ⟨by repeat (first | (with_reducible first | exact HI0.out | apply IsS76.alloc | apply IsS76.drewN | apply IsS76.drew | apply IsS76.set_1 | apply IsS76.set_2 | refine IsS76.far ?_ HN0_go40.out _ | refine IsS76.far ?_ (Aside0.out (by assumption)) _) | exact HI0.out)⟩
            have n4_ : Aside0 (KeepBut w (w43.setCell ⟨go40, oo40 + 3, none⟩ (.int .i64 (wrap64 ((rd x111004_1 3) + (wrap64 (1000000000 - x111000_1)))))) g none) := ⟨by repeat (first | (with_reducible first | exact HK.out | apply KeepBut.set_ | apply keep_drewN | apply keep_drew | apply keep_alloc | refine keep_far ?_ GB40.out _ | refine keep_far (w := w) ?_ (Aside0.out (by assumption)) _) | exact HK.out)⟩
            have n5_ : Aside0 (Below w0.heap.size w0 (w43.setCell ⟨go40, oo40 + 3, none⟩ (.int .i64 (wrap64 ((rd x111004_1 3) + (wrap64 (1000000000 - x111000_1))))))) := ⟨by repeat (first | (with_reducible first | exact HB.out | apply below_alloc | apply pw_below_drewN | apply below_drew1 | refine below_set ?_ (Nat.le_trans HL.out GB40.out) | refine below_set ?_ (IsS76.ge (Aside0.out (by assumption))) | refine below_set ?_ (Aside0.out (by assumption))) | exact HB.out)⟩
            (try clear HO_111004); (try clear BK101); (try clear BK110); (try clear HI0); (try clear HK); (try clear HB)
            generalize (w43.setCell ⟨go40, oo40 + 3, none⟩ (.int .i64 (wrap64 ((rd x111004_1 3) + (wrap64 (1000000000 - x111000_1)))))) = w46 at n0_ n1_ n2_ n3_ n4_ n5_ ⊢
            have HO_111004 := n0_
            have BK101 := n1_
            have BK110 := n2_
            have HI0 := n3_
            have HK := n4_
            have HB := n5_
            clear n0_ n1_ n2_ n3_ n4_ n5_
            have hnb47 := NB110_101.out
            have hnc47 := NB101_110.out
            have hnb48 := NB110_0.out
            have hnc48 := NB0_110.out
            have hz49 := cellsZ6 BK110.out
            try go_wp2_with (first | ((with_reducible refine gate_callee (f := 76) rfl ?_); refine goesL_ (some 35) rfl rfl Try.func76 (by kernel_rfl) rfl #[.agg #[.int .i64 1000000000, .int .i64 x111001_1, .int .i64 x111002_1, .int .i64 x111003_1, .slice (some ⟨go40, oo40, none⟩) y137.length co44, .bool x111005_1]] rfl (by (try simp only [List.map_toArray, List.map_cons, List.map_nil]); first | done | (rw [show y137.length = x111004_1.length from (Kd.Q_reads' HO_111004.out).1.symm] <;> rfl) | rfl | (simp only [List.length_drop, List.length_take]; rfl)) ?_; (with_reducible refine (spec_GoodAgg.calls kj28 1000000000 x111001_1 x111002_1 x111003_1 _ _ y137 x111005_1 true _ ?side1 ?side2 A41.out).mono ?_); (case side1 => refine (Kd.Q_reads' (e := 3) (base := w.heap.size) (ok := fun k_ => True) (n := x111004_1.length) (c := co44) ?_).2.2; exact (kZ (qF1 HO_111004.out BK110.out))); (case side2 => rw [show y137.length = x111004_1.length from (Kd.Q_reads' HO_111004.out).1.symm]; exact (Kd.Q_reads' HO_111004.out).2.1); rintro e w50 ⟨rfl, hb⟩; refine ⟨_, rfl, ?_⟩; have _ := aM (Kd.Q_below (kZ (qF1 HO_111004.out BK110.out)) hb); have _ := bB gb101 hb; have _ := aM (blk_below (g := gb110) (o := .cells #[.int .i64 1000000000, .int .i64 x111001_1, .int .i64 x111002_1, .int .i64 x111003_1, .slice (some ⟨go40, oo40, none⟩) x111004_1.length co44, .bool x111005_1] 26 (0, 0)) bkZ hb); have _ := aM (IsS76.below (show IsS76 w0 (w46.setCell ⟨gb110, 0, none⟩ (.int .i64 1000000000)) g s0_0 x1001_28 x1002_28 from by repeat (first | (with_reducible first | exact HI0.out | apply IsS76.alloc | apply IsS76.drewN | apply IsS76.drew | apply IsS76.set_1 | apply IsS76.set_2 | refine IsS76.far ?_ (Aside0.out (by assumption)) _) | exact HI0.out)) hb); have _ := aM (KeepBut.trans z7c8e (KeepBut.of_below hb g none) (.inl rfl)); have _ := aM (below_step za8af hb); clear HO_111004 BK101 BK110 HI0 HK HB; rename_i HO_111004 BK101 BK110 HI0 HK HB; (try clear hb)))
            go_meet
            case rel => exact ⟨_, (1000000000), (y137), (.slice (some ⟨go40, oo40, none⟩) x111004_1.length co44), H', ⟨by have := HK1.out; have := HJ28.out; first | omega | exact Nat.le_refl _⟩, ⟨kZ HO_111004.out⟩, ⟨bkZ⟩, ⟨bkZ⟩, ⟨z16b9⟩, ⟨z7c8e⟩, ⟨za8af⟩⟩
          · replace c42 := Bool.eq_false_iff.mpr c42
            subst c42
            rw [if_neg (show ¬ (false = true) by decide)] at H
            obtain ⟨y139, hy139⟩ : ∃ y_ : List Int, y_ = (y137.set (3 : Int).toNat 0) := ⟨_, rfl⟩
            first | (replace H := bindS H; rw [← hy139] at H; try dsimp only at H) | rw [← hy139] at H
            have Ny139 := aM hy139
            clear hy139
            have H' := aM H
            clear H
            try go_wp2
            have _ := aM (Kd.Q_drew HO_111004.out)
            have _ := aM (blk_drew BK101.out)
            have _ := aM (blk_drew BK110.out)
            have _ := aM (IsS76.drew HI0.out)
            have _ := aM (keep_drew HK.out)
            have _ := aM (below_drew1 HB.out)
            clear HO_111004
            clear BK101
            clear BK110
            clear HI0
            clear HK
            clear HB
            rename_i HO_111004 BK101 BK110 HI0 HK HB
            obtain ⟨Ao53, co53, eo53, _⟩ := Kd.Q_slice HO_111004.out
            (first | subst eo53 | (injection eo53 with f1_ f2_ f3_; have f4_ := f1_.symm; have f5_ := f3_.symm; clear f1_ f2_ f3_; subst f4_; subst f5_))
            have p136 : 0 ≤ (3 : Int) := (by omega)
            have q136 : 3 < (x111004_1.length : Int) := of_decide_eq_true z1200
            obtain ⟨ad136, e136, hx136_0⟩ := Kd.at_int (Kd.Q_reads' HO_111004.out).2.2 3 p136 q136
            cases e136
            (try simp only [show (3 : Int).toNat = 3 from rfl, Nat.reduceMul, Nat.reduceEqDiff, Go.Addr.add, ↓reduceIte] at hx136_0)
            have qi136 : (3 < x111004_1.length) = True := eq_true (by omega)
            (try rw [show ((3 : Int)).toNat = 3 from rfl] at hx136_0)
            replace p136 := eq_true p136
            replace q136 := eq_true q136
            have p40 : 0 ≤ (3 : Int) := (by omega)
            have q40 : (3 : Int) < ((x111004_1.length : Int) : Int) := of_decide_eq_true z1200
            have qi40 : (3 < x111004_1.length) = True := eq_true (by omega)
            obtain ⟨go40, oo40, co40, eo40, gb40, gl40, cl40, HG40⟩ := Kd.Q_form HO_111004.out (by omega)
            (first | cases eo40 | (injection eo40 with ea_ en_ ec_; (first | subst ea_ | (injection ea_ with ea_; subst ea_)); subst ec_; clear en_))
            have GB40 := aM gb40
            have GG40 := aM HG40
            clear gb40 gl40 HG40
            (first | simp only [add_at] at hx136_0 | skip)
            obtain ⟨hx40_0, hf40_0⟩ := Kd.Q_cell 0 HO_111004.out (3 : Int) p40 q40
            (try rw [show ((3 : Int)).toNat = 3 from rfl] at hx40_0)
            (try simp only [Nat.reduceMul, Nat.zero_mul, Nat.zero_add, Nat.reduceAdd] at hx40_0)
            (try rw [show ((3 : Int)).toNat = 3 from rfl] at hf40_0)
            (try simp only [Nat.reduceMul, Nat.zero_mul, Nat.zero_add, Nat.reduceAdd] at hf40_0)
            replace p40 := eq_true p40
            replace q40 := eq_true q40
            have HN0_go40 := aM (show g ≠ go40 from by have h_ := IsS76.own_neQ HI0.out HO_111004.out (by decide); intro e_; exact h_ (by rw [e_]; rfl))
            have HP54 := (Kd.Q_putg HO_111004.out (3 : Int) (by omega) (by have h_ : (3 : Int) < ((x111004_1.length : Int) : Int) := of_decide_eq_true z1200; first | exact h_ | (have e_ := (Kd.Q_reads' HO_111004.out).1; omega) | simpa using h_) (wrap64 ((rd x111004_1 3) + (wrap64 (1000000000 - x111000_1))))).1
            rw [← Ny137.out] at HP54
            have HQ54 := aM HP54
            clear HP54
            refine sA 10 spec_l1Cur_agg.tab7 spec_l1Cur_agg.bits7 (fun w' => w'.cell? ⟨gb110, 0, none⟩ = some (.int .i64 x111000_1) ∧ w'.cell? ⟨gb110, 1, none⟩ = some (.int .i64 x111001_1) ∧ w'.cell? ⟨gb110, 2, none⟩ = some (.int .i64 x111002_1) ∧ w'.cell? ⟨gb110, 3, none⟩ = some (.int .i64 x111003_1) ∧ w'.cell? ⟨gb110, 4, none⟩ = some (.slice (some ⟨go40, oo40, none⟩) x111004_1.length co53) ∧ w'.cell? ⟨gb110, 5, none⟩ = some (.bool x111005_1) ∧ w'.cell? ⟨go40, oo40 + 3, none⟩ = some (.int .i64 (rd x111004_1 3))) [9] (fun hHeld HT_ HW_ => ?_)
            generalize wc.drew = w52 at HO_111004 BK101 BK110 HI0 HK HB GG40 HQ54 hf40_0 hx136_0 hx40_0 hHeld ⊢
            refine pA 0 24 HT_ ?_; refine pA 4 28 HT_ ?_; refine tA 1 25 HT_ HW_ hHeld ?_; refine pA 2 26 HT_ ?_; refine tA 3 27 HT_ HW_ hHeld ?_; refine tA 5 29 HT_ HW_ hHeld ?_; refine pA 6 30 HT_ ?_; refine pA 7 31 HT_ ?_; refine pA 8 32 HT_ ?_
            refine last_ (i := 9) (N := none) #[true, true, true, true, true, true, true, true, true, true] rfl rfl (one_of HT_.out (by kernel_rfl)) (by decide) (fun K hK => ?_)
            refine skip_ (w1 := ?_) (by rfl) rfl ?_ ?_
            rotate_left
            · go_simp
              rfl
            refine hK.out _ _ ?_
            clear hK K
            refine done_ (done_of HT_.out (by kernel_rfl)) ?_
            have n0_ : Aside0 (Kd.Q (Kd.int .i64) 3 (w52.setCell ⟨go40, oo40 + 3, none⟩ (.int .i64 (wrap64 ((rd x111004_1 3) + (wrap64 (1000000000 - x111000_1)))))) w.heap.size (fun _ => True) (.slice (some ⟨go40, oo40, none⟩) x111004_1.length co53) y137) := ⟨kZ HQ54.out⟩
            have n1_ : Aside0 ((w52.setCell ⟨go40, oo40 + 3, none⟩ (.int .i64 (wrap64 ((rd x111004_1 3) + (wrap64 (1000000000 - x111000_1)))))).heap[gb101]? = some (.cells #[.int .i64 0, .int .i64 0, .int .i64 0, .int .i64 0, .slice none 0 0, .bool false] 26 (0, 0))) := ⟨by (with_reducible repeat (first | refine blk_drewN ?_ _ | refine blk_drew ?_ | refine blk_alloc ?_ _)); refine blk_far ?_ (by have h_ := Kd.Q_ne HO_111004.out BK101.out (by decide); intro e_; exact h_ (by rw [e_]; rfl)) _; (with_reducible repeat (first | refine blk_drewN ?_ _ | refine blk_drew ?_ | refine blk_alloc ?_ _)); exact BK101.out⟩
            have n2_ : Aside0 ((w52.setCell ⟨go40, oo40 + 3, none⟩ (.int .i64 (wrap64 ((rd x111004_1 3) + (wrap64 (1000000000 - x111000_1)))))).heap[gb110]? = some (.cells #[.int .i64 x111000_1, .int .i64 x111001_1, .int .i64 x111002_1, .int .i64 x111003_1, .slice (some ⟨go40, oo40, none⟩) x111004_1.length co53, .bool x111005_1] 26 (0, 0))) := ⟨by (with_reducible repeat (first | refine blk_drewN ?_ _ | refine blk_drew ?_ | refine blk_alloc ?_ _)); refine blk_far ?_ (by have h_ := Kd.Q_ne HO_111004.out BK110.out (by decide); intro e_; exact h_ (by rw [e_]; rfl)) _; (with_reducible repeat (first | refine blk_drewN ?_ _ | refine blk_drew ?_ | refine blk_alloc ?_ _)); exact BK110.out⟩
            have n3_ : Aside0 (IsS76 w0 (w52.setCell ⟨go40, oo40 + 3, none⟩ (.int .i64 (wrap64 ((rd x111004_1 3) + (wrap64 (1000000000 - x111000_1)))))) g s0_0 x1001_28 x1002_28) := ⟨by repeat (first | (with_reducible first | exact HI0.out | apply IsS76.alloc | apply IsS76.drewN | apply IsS76.drew | apply IsS76.set_1 | apply IsS76.set_2 | refine IsS76.far ?_ HN0_go40.out _ | refine IsS76.far ?_ (Aside0.out (by assumption)) _) | exact HI0.out)⟩
            have n4_ : Aside0 (KeepBut w (w52.setCell ⟨go40, oo40 + 3, none⟩ (.int .i64 (wrap64 ((rd x111004_1 3) + (wrap64 (1000000000 - x111000_1)))))) g none) := ⟨by repeat (first | (with_reducible first | exact HK.out | apply KeepBut.set_ | apply keep_drewN | apply keep_drew | apply keep_alloc | refine keep_far ?_ GB40.out _ | refine keep_far (w := w) ?_ (Aside0.out (by assumption)) _) | exact HK.out)⟩
            have n5_ : Aside0 (Below w0.heap.size w0 (w52.setCell ⟨go40, oo40 + 3, none⟩ (.int .i64 (wrap64 ((rd x111004_1 3) + (wrap64 (1000000000 - x111000_1))))))) := ⟨by repeat (first | (with_reducible first | exact HB.out | apply below_alloc | apply pw_below_drewN | apply below_drew1 | refine below_set ?_ (Nat.le_trans HL.out GB40.out) | refine below_set ?_ (IsS76.ge (Aside0.out (by assumption))) | refine below_set ?_ (Aside0.out (by assumption))) | exact HB.out)⟩
            (try clear HO_111004); (try clear BK101); (try clear BK110); (try clear HI0); (try clear HK); (try clear HB)
            generalize (w52.setCell ⟨go40, oo40 + 3, none⟩ (.int .i64 (wrap64 ((rd x111004_1 3) + (wrap64 (1000000000 - x111000_1)))))) = w55 at n0_ n1_ n2_ n3_ n4_ n5_ ⊢
            have HO_111004 := n0_
            have BK101 := n1_
            have BK110 := n2_
            have HI0 := n3_
            have HK := n4_
            have HB := n5_
            clear n0_ n1_ n2_ n3_ n4_ n5_
            have hnb56 := NB110_101.out
            have hnc56 := NB101_110.out
            have hnb57 := NB110_0.out
            have hnc57 := NB0_110.out
            have hz58 := cellsZ6 BK110.out
            try go_wp2_with (first | ((with_reducible refine gate_callee (f := 76) rfl ?_); refine goesL_ (some 35) rfl rfl Try.func76 (by kernel_rfl) rfl #[.agg #[.int .i64 1000000000, .int .i64 x111001_1, .int .i64 x111002_1, .int .i64 x111003_1, .slice (some ⟨go40, oo40, none⟩) y137.length co53, .bool x111005_1]] rfl (by (try simp only [List.map_toArray, List.map_cons, List.map_nil]); first | done | (rw [show y137.length = x111004_1.length from (Kd.Q_reads' HO_111004.out).1.symm] <;> rfl) | rfl | (simp only [List.length_drop, List.length_take]; rfl)) ?_; (with_reducible refine (spec_GoodAgg.calls kj28 1000000000 x111001_1 x111002_1 x111003_1 _ _ y137 x111005_1 false _ ?side1 ?side2 A41.out).mono ?_); (case side1 => refine (Kd.Q_reads' (e := 3) (base := w.heap.size) (ok := fun k_ => True) (n := x111004_1.length) (c := co53) ?_).2.2; exact (kZ (qF1 HO_111004.out BK110.out))); (case side2 => rw [show y137.length = x111004_1.length from (Kd.Q_reads' HO_111004.out).1.symm]; exact (Kd.Q_reads' HO_111004.out).2.1); rintro e w59 ⟨rfl, hb⟩; refine ⟨_, rfl, ?_⟩; have _ := aM (Kd.Q_below (kZ (qF1 HO_111004.out BK110.out)) hb); have _ := bB gb101 hb; have _ := aM (blk_below (g := gb110) (o := .cells #[.int .i64 1000000000, .int .i64 x111001_1, .int .i64 x111002_1, .int .i64 x111003_1, .slice (some ⟨go40, oo40, none⟩) x111004_1.length co53, .bool x111005_1] 26 (0, 0)) bkZ hb); have _ := aM (IsS76.below (show IsS76 w0 (w55.setCell ⟨gb110, 0, none⟩ (.int .i64 1000000000)) g s0_0 x1001_28 x1002_28 from by repeat (first | (with_reducible first | exact HI0.out | apply IsS76.alloc | apply IsS76.drewN | apply IsS76.drew | apply IsS76.set_1 | apply IsS76.set_2 | refine IsS76.far ?_ (Aside0.out (by assumption)) _) | exact HI0.out)) hb); have _ := aM (KeepBut.trans z7c8e (KeepBut.of_below hb g none) (.inl rfl)); have _ := aM (below_step za8af hb); clear HO_111004 BK101 BK110 HI0 HK HB; rename_i HO_111004 BK101 BK110 HI0 HK HB; (try clear hb); have hz60 := cellsZ6 BK110.out; have p51 : 0 ≤ (3 : Int) := (by omega); have q51 : (3 : Int) < ((x111004_1.length : Int) : Int) := of_decide_eq_true z1200; have qi51 : (3 < x111004_1.length) = True := eq_true (by omega); obtain ⟨hx51_0, hf51_0⟩ := Kd.Q_cell 0 HO_111004.out (3 : Int) p51 q51; (try rw [show ((3 : Int)).toNat = 3 from rfl] at hx51_0); (try simp only [Nat.reduceMul, Nat.zero_mul, Nat.zero_add, Nat.reduceAdd] at hx51_0); (try rw [show ((3 : Int)).toNat = 3 from rfl] at hf51_0); (try simp only [Nat.reduceMul, Nat.zero_mul, Nat.zero_add, Nat.reduceAdd] at hf51_0); replace p51 := eq_true p51; replace q51 := eq_true q51; obtain ⟨hy61_, hz61_⟩ := Kd.Q_cell 0 HO_111004.out (3 : Int) (by omega) (of_decide_eq_true z1200); (try simp only [Int.reduceToNat, Int.toNat_zero, Int.toNat_ofNat, Nat.reduceMul, Nat.zero_mul, Nat.zero_add] at hy61_ hz61_); (try rw [show ((3 : Int)).toNat = 3 from rfl] at hy61_); (try rw [show ((3 : Int)).toNat = 3 from rfl] at hz61_); have HP61 := Kd.Q_putg HO_111004.out (3 : Int) (by omega) (by have h_ : (3 : Int) < ((x111004_1.length : Int) : Int) := of_decide_eq_true z1200; first | exact h_ | (have e_ := (Kd.Q_reads' HO_111004.out).1; omega) | simpa using h_) 0) | ((with_reducible refine gate_store (t := 3) (p := 39) rfl ?_); refine store_event (t := 3) (p := 39) (v := ?vo_w62) (w1 := (w59.setCell ⟨go40, oo40 + (3 : Int).toNat, none⟩ (.int .i64 0))) ?hg ?ho ?hn ?hr ?_; (case ho => rfl); (case hg => rfl); (case hn => rfl); (case hr => first | (go_simp; done) | (go_simp; rfl)); intro w62 hw; have hg : w59.grownBy w62 (some go40) := (by rw [hw]; exact HP61.2); have hp_ : Kd.Q (Kd.int .i64) 3 w62 w.heap.size (fun _ => True) (.slice (some ⟨go40, oo40, none⟩) x111004_1.length co53) y139 := (by rw [hw, Ny139.out]; exact HP61.1); clear HP61; have _ := aM hp_; have _ := aM (blk_grown (g := gb101) bkZ hg (Kd.Q_ne HO_111004.out BK101.out (by decide))); have _ := aM (blk_grown (g := gb110) bkZ hg (Kd.Q_ne HO_111004.out BK110.out (by decide))); have _ := aM (IsS76.grown z16b9 hg (IsS76.own_neQ HI0.out HO_111004.out (by decide))); have _ := aM ((by rw [hw]; exact below_set (HB.out) (Nat.le_trans HL.out GB40.out) : Below w0.heap.size w0 w62)); have _ := aM (KeepBut.trans z7c8e (KeepBut.of_grown hg g) (Kd.Q_base2 HO_111004.out)); clear HO_111004 BK101 BK110 HI0 HB HK; rename_i HO_111004 BK101 BK110 HI0 HB HK; clear hg hw hp_))
            go_meet
            case rel => exact ⟨_, (1000000000), (y139), (.slice (some ⟨go40, oo40, none⟩) x111004_1.length co53), H', ⟨by have := HK1.out; have := HJ28.out; first | omega | exact Nat.le_refl _⟩, ⟨kZ HO_111004.out⟩, ⟨bkZ⟩, ⟨bkZ⟩, ⟨z16b9⟩, ⟨z7c8e⟩, ⟨za8af⟩⟩
        · replace c38 := Bool.eq_false_iff.mpr c38
          subst c38
          rw [if_neg (show ¬ (false = true) by decide)] at H
          have H' := aM H
          clear H
          go_wp2
          go_meet
          case rel => exact ⟨_, (x111000_1), (x111004_1), (u111004), H', ⟨by have := HK1.out; have := HJ28.out; first | omega | exact Nat.le_refl _⟩, ⟨kZ HO_111004.out⟩, ⟨bkZ⟩, ⟨bkZ⟩, ⟨z16b9⟩, ⟨z7c8e⟩, ⟨za8af⟩⟩
       case rest =>
        clear HC37
        obtain ⟨kq, x111000_36, x111004_36, u111004, HA, HJ36, HO_111004, BK101, BK110, HI0, HK, HB⟩ := hcut
        cases kq with
        | zero => exact absurd HA.out (by simp [spec_l1Cur_agg.j2])
        | succ kj36 =>
         have H := HA.out
         clear HA
         simp only [spec_l1Cur_agg.j2] at H
         obtain ⟨⟨t140, t141, t142⟩, A63, H⟩ := bS H; try dsimp only at H
         by_cases c64 : t140 = 0
         · rw [if_pos c64] at H
           have c64b0 : (t140 == 0) = true := beq_iff_eq.mpr c64
           have c64b1 : (t140 != 0) = false := bne_eq_false_iff_eq.mpr c64
           clear c64
           replace H := ifS H; obtain ⟨c65, H⟩ := H
           have c65b0 := eq_true c65
           have c65b1 : decide (1 ≤ (x111004_36.length : Int)) = true := decide_eq_true c65
           clear c65
           obtain ⟨y143, hy143⟩ : ∃ y_ : List Int, y_ = (x111004_36.drop (1 : Int).toNat) := ⟨_, rfl⟩
           first | (replace H := bindS H; rw [← hy143] at H; try dsimp only at H) | rw [← hy143] at H
           have Ny143 := aM hy143
           clear hy143
           simp only [Option.some.injEq, Prod.mk.injEq] at H
           obtain ⟨rfl, rfl, rfl, rfl, rfl, rfl, rfl, rfl⟩ := H
           go_wp2_with (first | ((with_reducible refine gate_callee (f := 53) rfl ?_); refine gL 41 Try.func53 #[.pointer (some ⟨g, 0, none⟩), .int .i64 60] ?_; (with_reducible refine (spec_l1Cur_pick.calls g s0_0 x1001_28 x1002_28 60 t140 t141 t142 w0 _ ?side1 ?side2 A63.out).mono ?_); (case side1 => exact z16b9); (case side2 => exact za8af); rintro e w66 ⟨rfl, hi, hb, hk⟩; refine ⟨_, rfl, ?_⟩; have _ := aM (Kd.Q_mono (Kd.Q_keep (IsS76.apartQ (show IsS76 w0 _ g s0_0 x1001_28 x1002_28 from by repeat (first | (with_reducible first | exact HI0.out | apply IsS76.alloc | apply IsS76.drewN | apply IsS76.drew | apply IsS76.set_1 | apply IsS76.set_2 | refine IsS76.far ?_ (Aside0.out (by assumption)) _) | exact HI0.out)) (kZ HO_111004.out) (by decide)) hk (fun _ h => h.2)) (fun _ h => h.1)); have _ := aM (KeepBut.blk hk (g' := gb101) bkZ NB101_0.out (by simp)); have _ := aM (KeepBut.blk hk (g' := gb110) bkZ NB110_0.out (by simp)); have _ := aM (KeepBut.trans z7c8e hk (.inl rfl)); have _ := aM hb; have _ := aM hi; clear HO_111004 BK101 BK110 HK HB HI0; rename_i HO_111004 BK101 BK110 HK HB HI0; (try clear hb); (try clear hk); (try clear hi); have hnb67 := NB110_101.out; have hnc67 := NB101_110.out; have hnb68 := NB110_0.out; have hnc68 := NB0_110.out; have hz69 := cellsZ6 BK110.out; obtain ⟨Ao70, co70, eo70, _⟩ := Kd.Q_slice HO_111004.out; subst eo70; have q71 : (1 : Int) ≤ ((x111004_36.length : Int) : Int) := of_decide_eq_true z1200; obtain ⟨i071, hi071, _, hsz71, _⟩ := info_parts info3; have hcut71 := cut_from (P := Try.prog) 24 3 .i64 Try.underlying24 hi071 1 hsz71 Ao70 x111004_36.length co70 1 (by omega) q71; have hr71 := Kd.Q_drop (k := (1 : Int).toNat) HO_111004.out (by omega); obtain ⟨A71, hA71⟩ : ∃ A1, A1 = (if co70 = (1 : Int).toNat then Ao70 else (Ao70 : Option Addr).map (·.add ((1 : Int).toNat * 1))) := ⟨_, rfl⟩; obtain ⟨c71, hc71⟩ : ∃ c1, c1 = co70 - (1 : Int).toNat := ⟨_, rfl⟩; have hy71 : y143.length = x111004_36.length - (1 : Int).toNat := (by rw [Ny143.out, List.length_drop]); rw [← Ny143.out] at hr71; rw [← hy71, ← hA71, ← hc71] at hcut71; replace hr71 : Kd.Q (Kd.int .i64) 3 w66 w.heap.size (fun _ => True) (.slice A71 y143.length c71) y143 := (by rw [hA71, hc71, hy71]; exact hr71); have HE71 : Aside0 ((Value.slice A71 y143.length c71).ownBlock = (.slice Ao70 x111004_36.length co70 : Value).ownBlock) := ⟨by rw [hA71]; split <;> (cases (Ao70 : Option Addr) <;> rfl)⟩; clear hy71 hi071 hsz71 HO_111004 hA71 hc71; have HO145 := aM hr71; clear hr71; replace q71 := eq_true q71; have hnb72 := NB101_0.out; have hnc72 := NB0_101.out; have hz73 := cellsZ6 BK101.out))
           refine bodyPost_ret (results_cell_row rfl _ _ gb101 26 #[.int .i64 x111000_36, .int .i64 x111001_1, .int .i64 x111002_1, .int .i64 x111003_1, .slice A71 y143.length c71, .bool x111005_1] (0, 0) _ rfl bkZ Try.underlying26 rfl (by kernel_rfl)) rfl ?_
           exact ⟨_, z674d, by (with_reducible repeat (first | apply Kd.Q_alloc | apply Kd.Q_drewN | apply Kd.Q_drew)); exact Kd.Q_mono (Kd.Q_far (p := ⟨gb101, 5, none⟩) (Kd.Q_far (p := ⟨gb101, 4, none⟩) (Kd.Q_far (p := ⟨gb101, 3, none⟩) (Kd.Q_far (p := ⟨gb101, 2, none⟩) (Kd.Q_far (p := ⟨gb101, 1, none⟩) (Kd.Q_far (p := ⟨gb101, 0, none⟩) (Kd.Q_far (p := ⟨gb110, 4, none⟩) (Kd.Q_types (Kd.Q_types HO145.out BK110.out (by decide)) BK101.out (by decide)) (fun _ hk => hk.1.2) (.slice A71 y143.length c71)) (fun _ hk => hk.2) (.int .i64 x111000_36)) (fun _ hk => hk.2) (.int .i64 x111001_1)) (fun _ hk => hk.2) (.int .i64 x111002_1)) (fun _ hk => hk.2) (.int .i64 x111003_1)) (fun _ hk => hk.2) (.slice A71 y143.length c71)) (fun _ hk => hk.2) (.bool x111005_1)) (fun _ hk => trivial), z16b9, za8af, z7c8e⟩
         · rw [if_neg c64] at H
           have c64b0 := eqN c64
           by_cases c74 : t140 = 1
           · rw [if_pos c74] at H
             have c74b0 : (t140 == 1) = true := beq_iff_eq.mpr c74
             have c74b1 : (t140 != 1) = false := bne_eq_false_iff_eq.mpr c74
             clear c74
             simp only [Option.some.injEq, Prod.mk.injEq] at H
             obtain ⟨rfl, rfl, rfl, rfl, rfl, rfl, rfl, rfl⟩ := H
             go_wp2_with (first | ((with_reducible refine gate_callee (f := 53) rfl ?_); refine gL 41 Try.func53 #[.pointer (some ⟨g, 0, none⟩), .int .i64 60] ?_; (with_reducible refine (spec_l1Cur_pick.calls g s0_0 x1001_28 x1002_28 60 t140 t141 t142 w0 _ ?side1 ?side2 A63.out).mono ?_); (case side1 => exact z16b9); (case side2 => exact za8af); rintro e w75 ⟨rfl, hi, hb, hk⟩; refine ⟨_, rfl, ?_⟩; have _ := aM (Kd.Q_mono (Kd.Q_keep (IsS76.apartQ (show IsS76 w0 _ g s0_0 x1001_28 x1002_28 from by repeat (first | (with_reducible first | exact HI0.out | apply IsS76.alloc | apply IsS76.drewN | apply IsS76.drew | apply IsS76.set_1 | apply IsS76.set_2 | refine IsS76.far ?_ (Aside0.out (by assumption)) _) | exact HI0.out)) (kZ HO_111004.out) (by decide)) hk (fun _ h => h.2)) (fun _ h => h.1)); have _ := aM (KeepBut.blk hk (g' := gb101) bkZ NB101_0.out (by simp)); have _ := aM (KeepBut.blk hk (g' := gb110) bkZ NB110_0.out (by simp)); have _ := aM (KeepBut.trans z7c8e hk (.inl rfl)); have _ := aM hb; have _ := aM hi; clear HO_111004 BK101 BK110 HK HB HI0; rename_i HO_111004 BK101 BK110 HK HB HI0; (try clear hb); (try clear hk); (try clear hi); have hnb76 := NB110_101.out; have hnc76 := NB101_110.out; have hnb77 := NB110_0.out; have hnc77 := NB0_110.out; have hz78 := cellsZ6 BK110.out; have hnb79 := NB101_0.out; have hnc79 := NB0_101.out; have hz80 := cellsZ6 BK101.out; obtain ⟨Ao81, co81, eo81, _⟩ := Kd.Q_slice HO_111004.out; subst eo81))
             refine bodyPost_ret (results_cell_row rfl _ _ gb101 26 #[.int .i64 x111000_36, .int .i64 x111001_1, .int .i64 (wrap64 (x111003_1 + 1)), .int .i64 x111003_1, .slice Ao81 x111004_36.length co81, .bool x111005_1] (0, 0) _ rfl bkZ Try.underlying26 rfl (by kernel_rfl)) rfl ?_
             exact ⟨_, z674d, by (with_reducible repeat (first | apply Kd.Q_alloc | apply Kd.Q_drewN | apply Kd.Q_drew)); exact Kd.Q_mono (Kd.Q_far (p := ⟨gb101, 5, none⟩) (Kd.Q_far (p := ⟨gb101, 4, none⟩) (Kd.Q_far (p := ⟨gb101, 3, none⟩) (Kd.Q_far (p := ⟨gb101, 2, none⟩) (Kd.Q_far (p := ⟨gb101, 1, none⟩) (Kd.Q_far (p := ⟨gb101, 0, none⟩) (Kd.Q_far (p := ⟨gb110, 2, none⟩) (Kd.Q_types (Kd.Q_types HO_111004.out BK110.out (by decide)) BK101.out (by decide)) (fun _ hk => hk.1.2) (.int .i64 (wrap64 (x111003_1 + 1)))) (fun _ hk => hk.2) (.int .i64 x111000_36)) (fun _ hk => hk.2) (.int .i64 x111001_1)) (fun _ hk => hk.2) (.int .i64 (wrap64 (x111003_1 + 1)))) (fun _ hk => hk.2) (.int .i64 x111003_1)) (fun _ hk => hk.2) (.slice Ao81 x111004_36.length co81)) (fun _ hk => hk.2) (.bool x111005_1)) (fun _ hk => trivial), z16b9, za8af, z7c8e⟩
           · rw [if_neg c74] at H
             have c74b0 := eqN c74
             by_cases c82 : t140 = 2
             · rw [if_pos c82] at H
               have c82b0 : (t140 == 2) = true := beq_iff_eq.mpr c82
               have c82b1 : (t140 != 2) = false := bne_eq_false_iff_eq.mpr c82
               clear c82
               simp only [Option.some.injEq, Prod.mk.injEq] at H
               obtain ⟨rfl, rfl, rfl, rfl, rfl, rfl, rfl, rfl⟩ := H
               go_wp2_with (first | ((with_reducible refine gate_callee (f := 53) rfl ?_); refine gL 41 Try.func53 #[.pointer (some ⟨g, 0, none⟩), .int .i64 60] ?_; (with_reducible refine (spec_l1Cur_pick.calls g s0_0 x1001_28 x1002_28 60 t140 t141 t142 w0 _ ?side1 ?side2 A63.out).mono ?_); (case side1 => exact z16b9); (case side2 => exact za8af); rintro e w83 ⟨rfl, hi, hb, hk⟩; refine ⟨_, rfl, ?_⟩; have _ := aM (Kd.Q_mono (Kd.Q_keep (IsS76.apartQ (show IsS76 w0 _ g s0_0 x1001_28 x1002_28 from by repeat (first | (with_reducible first | exact HI0.out | apply IsS76.alloc | apply IsS76.drewN | apply IsS76.drew | apply IsS76.set_1 | apply IsS76.set_2 | refine IsS76.far ?_ (Aside0.out (by assumption)) _) | exact HI0.out)) (kZ HO_111004.out) (by decide)) hk (fun _ h => h.2)) (fun _ h => h.1)); have _ := aM (KeepBut.blk hk (g' := gb101) bkZ NB101_0.out (by simp)); have _ := aM (KeepBut.blk hk (g' := gb110) bkZ NB110_0.out (by simp)); have _ := aM (KeepBut.trans z7c8e hk (.inl rfl)); have _ := aM hb; have _ := aM hi; clear HO_111004 BK101 BK110 HK HB HI0; rename_i HO_111004 BK101 BK110 HK HB HI0; (try clear hb); (try clear hk); (try clear hi); have hnb84 := NB110_101.out; have hnc84 := NB101_110.out; have hnb85 := NB110_0.out; have hnc85 := NB0_110.out; have hz86 := cellsZ6 BK110.out; have hnb87 := NB101_0.out; have hnc87 := NB0_101.out; have hz88 := cellsZ6 BK101.out; obtain ⟨Ao89, co89, eo89, _⟩ := Kd.Q_slice HO_111004.out; subst eo89))
               refine bodyPost_ret (results_cell_row rfl _ _ gb101 26 #[.int .i64 x111000_36, .int .i64 x111001_1, .int .i64 x111002_1, .int .i64 x111003_1, .slice Ao89 x111004_36.length co89, .bool true] (0, 0) _ rfl bkZ Try.underlying26 rfl (by kernel_rfl)) rfl ?_
               exact ⟨_, z674d, by (with_reducible repeat (first | apply Kd.Q_alloc | apply Kd.Q_drewN | apply Kd.Q_drew)); exact Kd.Q_mono (Kd.Q_far (p := ⟨gb101, 5, none⟩) (Kd.Q_far (p := ⟨gb101, 4, none⟩) (Kd.Q_far (p := ⟨gb101, 3, none⟩) (Kd.Q_far (p := ⟨gb101, 2, none⟩) (Kd.Q_far (p := ⟨gb101, 1, none⟩) (Kd.Q_far (p := ⟨gb101, 0, none⟩) (Kd.Q_far (p := ⟨gb110, 5, none⟩) (Kd.Q_types (Kd.Q_types HO_111004.out BK110.out (by decide)) BK101.out (by decide)) (fun _ hk => hk.1.2) (.bool true)) (fun _ hk => hk.2) (.int .i64 x111000_36)) (fun _ hk => hk.2) (.int .i64 x111001_1)) (fun _ hk => hk.2) (.int .i64 x111002_1)) (fun _ hk => hk.2) (.int .i64 x111003_1)) (fun _ hk => hk.2) (.slice Ao89 x111004_36.length co89)) (fun _ hk => hk.2) (.bool true)) (fun _ hk => trivial), z16b9, za8af, z7c8e⟩
             · rw [if_neg c82] at H
               have c82b0 := eqN c82
               by_cases c90 : t140 = 3
               · rw [if_pos c90] at H
                 have c90b0 : (t140 == 3) = true := beq_iff_eq.mpr c90
                 have c90b1 : (t140 != 3) = false := bne_eq_false_iff_eq.mpr c90
                 clear c90
                 simp only [Option.some.injEq, Prod.mk.injEq] at H
                 obtain ⟨rfl, rfl, rfl, rfl, rfl, rfl, rfl, rfl⟩ := H
                 go_wp2_with (first | ((with_reducible refine gate_callee (f := 53) rfl ?_); refine gL 41 Try.func53 #[.pointer (some ⟨g, 0, none⟩), .int .i64 60] ?_; (with_reducible refine (spec_l1Cur_pick.calls g s0_0 x1001_28 x1002_28 60 t140 t141 t142 w0 _ ?side1 ?side2 A63.out).mono ?_); (case side1 => exact z16b9); (case side2 => exact za8af); rintro e w91 ⟨rfl, hi, hb, hk⟩; refine ⟨_, rfl, ?_⟩; have _ := aM (Kd.Q_mono (Kd.Q_keep (IsS76.apartQ (show IsS76 w0 _ g s0_0 x1001_28 x1002_28 from by repeat (first | (with_reducible first | exact HI0.out | apply IsS76.alloc | apply IsS76.drewN | apply IsS76.drew | apply IsS76.set_1 | apply IsS76.set_2 | refine IsS76.far ?_ (Aside0.out (by assumption)) _) | exact HI0.out)) (kZ HO_111004.out) (by decide)) hk (fun _ h => h.2)) (fun _ h => h.1)); have _ := aM (KeepBut.blk hk (g' := gb101) bkZ NB101_0.out (by simp)); have _ := aM (KeepBut.blk hk (g' := gb110) bkZ NB110_0.out (by simp)); have _ := aM (KeepBut.trans z7c8e hk (.inl rfl)); have _ := aM hb; have _ := aM hi; clear HO_111004 BK101 BK110 HK HB HI0; rename_i HO_111004 BK101 BK110 HK HB HI0; (try clear hb); (try clear hk); (try clear hi); have hnb92 := NB110_101.out; have hnc92 := NB101_110.out; have hnb93 := NB110_0.out; have hnc93 := NB0_110.out; have hz94 := cellsZ6 BK110.out; have hnb95 := NB101_0.out; have hnc95 := NB0_101.out; have hz96 := cellsZ6 BK101.out; obtain ⟨Ao97, co97, eo97, _⟩ := Kd.Q_slice HO_111004.out; subst eo97))
                 refine bodyPost_ret (results_cell_row rfl _ _ gb101 26 #[.int .i64 (wrap64 (x111000_36 + 1)), .int .i64 x111001_1, .int .i64 x111002_1, .int .i64 x111003_1, .slice Ao97 x111004_36.length co97, .bool x111005_1] (0, 0) _ rfl bkZ Try.underlying26 rfl (by kernel_rfl)) rfl ?_
                 exact ⟨_, z674d, by (with_reducible repeat (first | apply Kd.Q_alloc | apply Kd.Q_drewN | apply Kd.Q_drew)); exact Kd.Q_mono (Kd.Q_far (p := ⟨gb101, 5, none⟩) (Kd.Q_far (p := ⟨gb101, 4, none⟩) (Kd.Q_far (p := ⟨gb101, 3, none⟩) (Kd.Q_far (p := ⟨gb101, 2, none⟩) (Kd.Q_far (p := ⟨gb101, 1, none⟩) (Kd.Q_far (p := ⟨gb101, 0, none⟩) (Kd.Q_far (p := ⟨gb110, 0, none⟩) (Kd.Q_types (Kd.Q_types HO_111004.out BK110.out (by decide)) BK101.out (by decide)) (fun _ hk => hk.1.2) (.int .i64 (wrap64 (x111000_36 + 1)))) (fun _ hk => hk.2) (.int .i64 (wrap64 (x111000_36 + 1)))) (fun _ hk => hk.2) (.int .i64 x111001_1)) (fun _ hk => hk.2) (.int .i64 x111002_1)) (fun _ hk => hk.2) (.int .i64 x111003_1)) (fun _ hk => hk.2) (.slice Ao97 x111004_36.length co97)) (fun _ hk => hk.2) (.bool x111005_1)) (fun _ hk => trivial), z16b9, za8af, z7c8e⟩
               · rw [if_neg c90] at H
                 have c90b0 := eqN c90
                 simp only [Option.some.injEq, Prod.mk.injEq] at H
                 obtain ⟨rfl, rfl, rfl, rfl, rfl, rfl, rfl, rfl⟩ := H
                 go_wp2_with (first | ((with_reducible refine gate_callee (f := 53) rfl ?_); refine gL 41 Try.func53 #[.pointer (some ⟨g, 0, none⟩), .int .i64 60] ?_; (with_reducible refine (spec_l1Cur_pick.calls g s0_0 x1001_28 x1002_28 60 t140 t141 t142 w0 _ ?side1 ?side2 A63.out).mono ?_); (case side1 => exact z16b9); (case side2 => exact za8af); rintro e w98 ⟨rfl, hi, hb, hk⟩; refine ⟨_, rfl, ?_⟩; have _ := aM (Kd.Q_mono (Kd.Q_keep (IsS76.apartQ (show IsS76 w0 _ g s0_0 x1001_28 x1002_28 from by repeat (first | (with_reducible first | exact HI0.out | apply IsS76.alloc | apply IsS76.drewN | apply IsS76.drew | apply IsS76.set_1 | apply IsS76.set_2 | refine IsS76.far ?_ (Aside0.out (by assumption)) _) | exact HI0.out)) (kZ HO_111004.out) (by decide)) hk (fun _ h => h.2)) (fun _ h => h.1)); have _ := aM (KeepBut.blk hk (g' := gb101) bkZ NB101_0.out (by simp)); have _ := aM (KeepBut.blk hk (g' := gb110) bkZ NB110_0.out (by simp)); have _ := aM (KeepBut.trans z7c8e hk (.inl rfl)); have _ := aM hb; have _ := aM hi; clear HO_111004 BK101 BK110 HK HB HI0; rename_i HO_111004 BK101 BK110 HK HB HI0; (try clear hb); (try clear hk); (try clear hi); have hnb99 := NB110_101.out; have hnc99 := NB101_110.out; have hnb100 := NB110_0.out; have hnc100 := NB0_110.out; have hz101 := cellsZ6 BK110.out; have hnb102 := NB101_0.out; have hnc102 := NB0_101.out; have hz103 := cellsZ6 BK101.out; obtain ⟨Ao104, co104, eo104, _⟩ := Kd.Q_slice HO_111004.out; subst eo104))
                 refine bodyPost_ret (results_cell_row rfl _ _ gb101 26 #[.int .i64 x111000_36, .int .i64 x111001_1, .int .i64 x111002_1, .int .i64 x111003_1, .slice Ao104 x111004_36.length co104, .bool x111005_1] (0, 0) _ rfl bkZ Try.underlying26 rfl (by kernel_rfl)) rfl ?_
                 exact ⟨_, z674d, by (with_reducible repeat (first | apply Kd.Q_alloc | apply Kd.Q_drewN | apply Kd.Q_drew)); exact Kd.Q_mono (Kd.Q_far (p := ⟨gb101, 5, none⟩) (Kd.Q_far (p := ⟨gb101, 4, none⟩) (Kd.Q_far (p := ⟨gb101, 3, none⟩) (Kd.Q_far (p := ⟨gb101, 2, none⟩) (Kd.Q_far (p := ⟨gb101, 1, none⟩) (Kd.Q_far (p := ⟨gb101, 0, none⟩) (Kd.Q_types HO_111004.out BK101.out (by decide)) (fun _ hk => hk.2) (.int .i64 x111000_36)) (fun _ hk => hk.2) (.int .i64 x111001_1)) (fun _ hk => hk.2) (.int .i64 x111002_1)) (fun _ hk => hk.2) (.int .i64 x111003_1)) (fun _ hk => hk.2) (.slice Ao104 x111004_36.length co104)) (fun _ hk => hk.2) (.bool x111005_1)) (fun _ hk => trivial), z16b9, za8af, z7c8e⟩
end Go.Proofs.Ytdkokfnnebdppaa.P
