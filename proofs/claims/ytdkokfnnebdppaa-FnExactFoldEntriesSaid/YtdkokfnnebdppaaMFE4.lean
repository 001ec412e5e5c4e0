/- Part 4 of the walks and words that FE uses. No conditions of its own. -/
import Derived.Test.YtdkokfnnebdppaaMFE3

-- written by a program of this session's (wip/pp)
namespace Go.Proofs.Ytdkokfnnebdppaa.P
open Go.RowKit Go.Proofs.YtdkokfnnebdppaaW.PrintWords Go.Proofs.YtdkokfnnebdppaaW.PrintLast Go.Proofs.YtdkokfnnebdppaaW.PrintMore
attribute [local go_sem] max2_int min2_int max_two min_two max_three min_three max_four min_four str_geq str_gtr str_leq   -- for this text's walks alone
set_option linter.unusedVariables false
set_option linter.unusedSimpArgs false

/-! ### spec_GoodAgg: function 76 -/
mutual
def spec_GoodAgg.j0 : Nat → Bool → Int → Int → Int → Int → List Int → Bool → Option (Bool)
 | 0, _, _, _, _, _, _, _ => none
 | k + 1, x15, x102000, x102001, x102002, x102003, x102004, x102005 => if x15 = true then (some false) else (spec_GoodAgg.l0 k 0 x102004 (x102004.length : Int) 0 x102000 x102001 x102002 x102003 x102004 x102005)
def spec_GoodAgg.l0 : Nat → Int → List Int → Int → Int → Int → Int → Int → Int → List Int → Bool → Option (Bool)
 | 0, _, _, _, _, _, _, _, _, _, _ => none
 | k + 1, x3, x17, x18, x19, x102000, x102001, x102002, x102003, x102004, x102005 => if x19 < x18 then (if 0 ≤ x19 then (if x19 < (x17.length : Int) then ((spec_l1In.f (rd x17 x19) 0 1000000000).bind fun t104 => (if t104 = true then (spec_GoodAgg.l0 k (wrap64 (x3 + (rd x17 x19))) x17 x18 (wrap64 (x19 + 1)) x102000 x102001 x102002 x102003 x102004 x102005) else (some false))) else (none)) else (none)) else (if x102000 = 0 then (if x3 = 0 then (if x102002 = 0 then (if x102003 = 0 then (if x102001 = 0 then (some (!x102005)) else (some false)) else (some false)) else (some false)) else (some false)) else ((spec_l4Value.f x102002).bind fun t105 => (if t105 = true then ((spec_l4Value.f x102003).bind fun t106 => (if t106 = true then (spec_GoodAgg.j2 k x3 (decide (x102002 > x102003)) x102000 x102001 x102002 x102003 x102004 x102005) else (spec_GoodAgg.j2 k x3 true x102000 x102001 x102002 x102003 x102004 x102005))) else (spec_GoodAgg.j2 k x3 true x102000 x102001 x102002 x102003 x102004 x102005))))
def spec_GoodAgg.j2 : Nat → Int → Bool → Int → Int → Int → Int → List Int → Bool → Option (Bool)
 | 0, _, _, _, _, _, _, _, _ => none
 | k + 1, x3, x71, x102000, x102001, x102002, x102003, x102004, x102005 => if x71 = true then (some false) else (if x102005 = true then (some (x102001 == 0)) else (if x3 = x102000 then ((spec_l1In.f x102001 (wrap64 ((-1000000000) * x102000)) (wrap64 (1000000000 * x102000))).bind fun t107 => (some t107)) else (some false)))
end
def spec_GoodAgg.f (k : Nat) (a0_0 : Int) (a0_1 : Int) (a0_2 : Int) (a0_3 : Int) (l0_4 : List Int) (a0_5 : Bool) : Option (Bool) := (spec_l1In.f a0_0 0 1000000000).bind fun t102 => (if t102 = true then (spec_GoodAgg.j0 k ((l0_4.length : Int) != 8) a0_0 a0_1 a0_2 a0_3 l0_4 a0_5) else (spec_GoodAgg.j0 k true a0_0 a0_1 a0_2 a0_3 l0_4 a0_5))
theorem spec_GoodAgg.mono_l : ∀ k, (∀ y0 y1 y2 y3 y4 y5 y6, LeO (spec_GoodAgg.j0 k y0 y1 y2 y3 y4 y5 y6) (spec_GoodAgg.j0 (k + 1) y0 y1 y2 y3 y4 y5 y6)) ∧ (∀ y0 y1 y2 y3 y4 y5 y6 y7 y8 y9, LeO (spec_GoodAgg.l0 k y0 y1 y2 y3 y4 y5 y6 y7 y8 y9) (spec_GoodAgg.l0 (k + 1) y0 y1 y2 y3 y4 y5 y6 y7 y8 y9)) ∧ (∀ y0 y1 y2 y3 y4 y5 y6 y7, LeO (spec_GoodAgg.j2 k y0 y1 y2 y3 y4 y5 y6 y7) (spec_GoodAgg.j2 (k + 1) y0 y1 y2 y3 y4 y5 y6 y7))
 | 0 => ⟨fun _ _ _ _ _ _ _ r h => by simp [spec_GoodAgg.j0] at h, fun _ _ _ _ _ _ _ _ _ _ r h => by simp [spec_GoodAgg.l0] at h, fun _ _ _ _ _ _ _ _ r h => by simp [spec_GoodAgg.j2] at h⟩
 | k + 1 => by
  obtain ⟨ih0, ih1, ih2⟩ := spec_GoodAgg.mono_l k
  refine ⟨?_, ?_, ?_⟩
  · intro y0 y1 y2 y3 y4 y5 y6
    unfold spec_GoodAgg.j0
    repeat' first
     | (with_reducible first | exact ih0 .. | exact ih1 .. | exact ih2 .. | exact LeO.refl _ | exact LeO.none _ | refine LeO.ite ?_ ?_ | refine LeO.bind ?_ (fun _ => ?_))
     | exact LeO.none _
     | refine LeO.ite ?_ ?_
     | refine LeO.bind ?_ (fun _ => ?_)
  · intro y0 y1 y2 y3 y4 y5 y6 y7 y8 y9
    unfold spec_GoodAgg.l0
    repeat' first
     | (with_reducible first | exact ih0 .. | exact ih1 .. | exact ih2 .. | exact LeO.refl _ | exact LeO.none _ | refine LeO.ite ?_ ?_ | refine LeO.bind ?_ (fun _ => ?_))
     | exact LeO.none _
     | refine LeO.ite ?_ ?_
     | refine LeO.bind ?_ (fun _ => ?_)
  · intro y0 y1 y2 y3 y4 y5 y6 y7
    unfold spec_GoodAgg.j2
    repeat' first
     | (with_reducible first | exact ih0 .. | exact ih1 .. | exact ih2 .. | exact LeO.refl _ | exact LeO.none _ | refine LeO.ite ?_ ?_ | refine LeO.bind ?_ (fun _ => ?_))
     | exact LeO.none _
     | refine LeO.ite ?_ ?_
     | refine LeO.bind ?_ (fun _ => ?_)
theorem spec_GoodAgg.mono : ∀ a0 a1 a2 a3 a4 a5 k, LeO (spec_GoodAgg.f k a0 a1 a2 a3 a4 a5) (spec_GoodAgg.f (k + 1) a0 a1 a2 a3 a4 a5) := by
 intro a0 a1 a2 a3 a4 a5 k
 obtain ⟨ih0, ih1, ih2⟩ := spec_GoodAgg.mono_l k
 unfold spec_GoodAgg.f
 repeat' first
  | (with_reducible first | exact ih0 .. | exact ih1 .. | exact ih2 .. | exact LeO.refl _ | exact LeO.none _ | refine LeO.ite ?_ ?_ | refine LeO.bind ?_ (fun _ => ?_))
  | exact LeO.none _
  | refine LeO.ite ?_ ?_
  | refine LeO.bind ?_ (fun _ => ?_)
set_option maxHeartbeats 8000000 in
set_option maxRecDepth 100000 in
theorem spec_GoodAgg.calls (k : Nat) (a0_0 : Int) (a0_1 : Int) (a0_2 : Int) (a0_3 : Int) (A0_4 : Option Addr) (c0_4 : Nat) (l0_4 : List Int) (a0_5 : Bool) (r : Bool) (w : World) (hr0_4 : Kd.C (Kd.int .i64) w A0_4 l0_4.length l0_4) (hc0_4 : l0_4.length ≤ c0_4) (h : spec_GoodAgg.f k a0_0 a0_1 a0_2 a0_3 l0_4 a0_5 = some r) :
 Calls Try.prog 76 #[.agg #[.int .i64 a0_0, .int .i64 a0_1, .int .i64 a0_2, .int .i64 a0_3, .slice A0_4 l0_4.length c0_4, .bool a0_5]] w fun e w' => e = .returned (.bool r) ∧ Below w.heap.size w w' := by
 have hu26 := Try.underlying26
 have HR0_4 := aM hr0_4
 have HC0_4 := aM hc0_4
 clear hr0_4 hc0_4
 have HB := aM (Below.refl w.heap.size w)
 have H : ((spec_l1In.f a0_0 0 1000000000).bind fun t102 => (if t102 = true then (spec_GoodAgg.j0 k ((l0_4.length : Int) != 8) a0_0 a0_1 a0_2 a0_3 l0_4 a0_5) else (spec_GoodAgg.j0 k true a0_0 a0_1 a0_2 a0_3 l0_4 a0_5))) = some r := h
 clear h
 have HC2 := aM H
 clear H
 go_enter Try.func76, Try.ntmps76
 go_upto_region 1 with (first | ((with_reducible refine gate_dst (N := 1) rfl ?_); (try (refine gate_guard (by rfl) ?_; dsimp only)); refine box_event ?hg (N := 1) ?hd (cs := #[.int .i64 a0_0, .int .i64 a0_1, .int .i64 a0_2, .int .i64 a0_3, .slice A0_4 l0_4.length c0_4, .bool a0_5]) (t := 26) ?hr ?_; (case hd => rfl); (case hg => rfl); (case hr => first | (go_simp; done) | (go_simp; rfl)); intro gb101 hg w3 hbox hb; have _ := aM (below_step hbZ hb); have _ := aM hbox; have _ := szZ hg; have _ := szZ hg; clear HB; rename_i HB BK101 GW101 GE101; clear hb hbox hg))
 (try simp only [Act.put, List.setIfInBounds_toArray, List.set_cons_zero, List.set_cons_succ])
 go_cut [15] (fun v15 wc => ∃ (kq : Nat) (x15_1 : Bool), v15 = .bool x15_1 ∧ Aside0 (spec_GoodAgg.j0 kq x15_1 a0_0 a0_1 a0_2 a0_3 l0_4 a0_5 = some r) ∧ Aside0 (kq ≤ k) ∧ Aside0 (wc.heap[gb101]? = some (.cells #[.int .i64 a0_0, .int .i64 a0_1, .int .i64 a0_2, .int .i64 a0_3, (.slice A0_4 l0_4.length c0_4), .bool a0_5] 26 (0, 0))) ∧ Aside0 (Below w.heap.size w wc))
 case first =>
  have H := HC2.out
  clear HC2
  replace H := Option.bind_eq_some_iff.mp H
  obtain ⟨t102, A40, H⟩ := H
  try dsimp only at H
  have A4 := aM A40
  clear A40
  by_cases c5 : t102 = true
  · subst c5
    rw [if_pos rfl] at H
    have H' := aM H
    clear H
    obtain ⟨hcz6_0, hcz6_1, hcz6_2, hcz6_3, hcz6_4, hcz6_5, hfz6_0, hfz6_1, hfz6_2, hfz6_3, hfz6_4, hfz6_5⟩ := cellsZ6 BK101.out
    go_wp2_with (first | ((with_reducible refine gate_callee (f := 64) rfl ?_); refine goesL_ (some 8) rfl rfl Try.func64 (by kernel_rfl) rfl #[.int .i64 a0_0, .int .i64 0, .int .i64 1000000000] rfl zee81 ?_; (with_reducible refine (spec_l1In.calls a0_0 0 1000000000 true _ A4.out).mono ?_); rintro e w' ⟨rfl, ⟨nd, rfl⟩⟩; refine ⟨_, rfl, ?_⟩))
    go_meet
    case rel => exact ⟨_, (((l0_4.length : Int) != 8)), z4458, H', ⟨zb79b⟩, ⟨bkZ⟩, ⟨zcb41⟩⟩
  · replace c5 := Bool.eq_false_iff.mpr c5
    subst c5
    rw [if_neg (show ¬ (false = true) by decide)] at H
    have H' := aM H
    clear H
    obtain ⟨hcz7_0, hcz7_1, hcz7_2, hcz7_3, hcz7_4, hcz7_5, hfz7_0, hfz7_1, hfz7_2, hfz7_3, hfz7_4, hfz7_5⟩ := cellsZ6 BK101.out
    go_wp2_with (first | ((with_reducible refine gate_callee (f := 64) rfl ?_); refine goesL_ (some 8) rfl rfl Try.func64 (by kernel_rfl) rfl #[.int .i64 a0_0, .int .i64 0, .int .i64 1000000000] rfl zee81 ?_; (with_reducible refine (spec_l1In.calls a0_0 0 1000000000 false _ A4.out).mono ?_); rintro e w' ⟨rfl, ⟨nd, rfl⟩⟩; refine ⟨_, rfl, ?_⟩))
    go_meet
    case rel => exact ⟨_, (true), z4458, H', ⟨zb79b⟩, ⟨bkZ⟩, ⟨zcb41⟩⟩
 case rest =>
  clear HC2
  try clear p2
  try clear c5
  try clear c6
  try clear c7
  try clear hcz6_0 hcz6_1 hcz6_2 hcz6_3 hcz6_4 hcz6_5
  try clear hcz7_0 hcz7_1 hcz7_2 hcz7_3 hcz7_4 hcz7_5
  try clear hfz6_0 hfz6_1 hfz6_2 hfz6_3 hfz6_4 hfz6_5
  try clear hfz7_0 hfz7_1 hfz7_2 hfz7_3 hfz7_4 hfz7_5
  obtain ⟨kq, x15_1, rfl, HA, HJ1, BK101, HB⟩ := hcut
  cases kq with
  | zero => exact absurd HA.out (by simp [spec_GoodAgg.j0])
  | succ kj1 =>
   have H := HA.out
   clear HA
   simp only [spec_GoodAgg.j0] at H
   by_cases c8 : x15_1 = true
   · subst c8
     rw [if_pos rfl] at H
     obtain rfl := Option.some.inj H
     go_wp2
     go_ret
     exact ⟨z674d, zcb41⟩
   · replace c8 := Bool.eq_false_iff.mpr c8
     subst c8
     rw [if_neg (show ¬ (false = true) by decide)] at H
     have H' := aM H
     clear H
     obtain ⟨hcz9_0, hcz9_1, hcz9_2, hcz9_3, hcz9_4, hcz9_5, hfz9_0, hfz9_1, hfz9_2, hfz9_3, hfz9_4, hfz9_5⟩ := cellsZ6 BK101.out
     go_wp2
     go_loopg [3, 19] kj1 (fun kq v3 v19 w' => ∃ (x3_2 : Int) (x19_2 : Int), v3 = .int .i64 x3_2 ∧ v19 = .int .i64 x19_2 ∧ Aside0 (spec_GoodAgg.l0 kq x3_2 l0_4 (l0_4.length : Int) x19_2 a0_0 a0_1 a0_2 a0_3 l0_4 a0_5 = some r) ∧ Aside0 (kq ≤ kj1) ∧ Aside0 (w'.heap[gb101]? = some (.cells #[.int .i64 a0_0, .int .i64 a0_1, .int .i64 a0_2, .int .i64 a0_3, (.slice A0_4 l0_4.length c0_4), .bool a0_5] 26 (0, 0))) ∧ Aside0 (Below w.heap.size w w'))
     case atStart => exact ⟨(0), (0), z4458, z4458, H', ⟨Nat.le_refl _⟩, ⟨bkZ⟩, ⟨zcb41⟩⟩
     case round =>
      clear H'
      try clear p2
      try clear c5
      try clear c6
      try clear c7
      try clear c8
      try clear hcz6_0 hcz6_1 hcz6_2 hcz6_3 hcz6_4 hcz6_5
      try clear hcz7_0 hcz7_1 hcz7_2 hcz7_3 hcz7_4 hcz7_5
      try clear hcz9_0 hcz9_1 hcz9_2 hcz9_3 hcz9_4 hcz9_5
      try clear hfz6_0 hfz6_1 hfz6_2 hfz6_3 hfz6_4 hfz6_5
      try clear hfz7_0 hfz7_1 hfz7_2 hfz7_3 hfz7_4 hfz7_5
      try clear hfz9_0 hfz9_1 hfz9_2 hfz9_3 hfz9_4 hfz9_5
      try clear p2
      obtain ⟨x3_2, x19_2, rfl, rfl, HA, HK2, BK101, HB⟩ := hrel
      cases gk with
      | zero => exact absurd HA.out (by simp [spec_GoodAgg.l0])
      | succ k2 =>
       have H := HA.out
       clear HA
       simp only [spec_GoodAgg.l0] at H
       by_cases c10 : x19_2 < (l0_4.length : Int)
       · rw [if_pos c10] at H
         have c10b0 : decide (x19_2 < (l0_4.length : Int)) = true := decide_eq_true c10
         clear c10
         replace H := ifS H; obtain ⟨c11, H⟩ := H
         have c11b0 : decide (0 ≤ x19_2) = true := decide_eq_true c11
         clear c11
         replace H := ifS H; obtain ⟨c12, H⟩ := H
         have c12b0 : decide (x19_2 < (l0_4.length : Int)) = true := decide_eq_true c12
         clear c12
         replace H := Option.bind_eq_some_iff.mp H
         obtain ⟨t104, A130, H⟩ := H
         try dsimp only at H
         have A13 := aM A130
         clear A130
         by_cases c14 : t104 = true
         · subst c14
           rw [if_pos rfl] at H
           have H' := aM H
           clear H
           have p103 : 0 ≤ (x19_2 : Int) := of_decide_eq_true z1200
           have q103 : x19_2 < (l0_4.length : Int) := of_decide_eq_true z1200
           obtain ⟨ad103, e103, hx103_0⟩ := Kd.at_int HR0_4.out x19_2 p103 q103
           cases e103
           replace hx103_0 := (HB.out.cell (World.block_lt_of_cell? w _ hx103_0)).trans hx103_0
           replace p103 := eq_true p103
           replace q103 := eq_true q103
           go_wp2_with (first | ((with_reducible refine gate_callee (f := 64) rfl ?_); refine goesL_ (some 24) rfl rfl Try.func64 (by kernel_rfl) rfl #[.int .i64 (rd l0_4 x19_2), .int .i64 0, .int .i64 1000000000] rfl zee81 ?_; (with_reducible refine (spec_l1In.calls (rd l0_4 x19_2) 0 1000000000 true _ A13.out).mono ?_); rintro e w' ⟨rfl, ⟨nd, rfl⟩⟩; refine ⟨_, rfl, ?_⟩))
           go_roundg k2
           case measure => have := HJ1.out; have := HK2.out; omega
           case rel => exact ⟨(wrap64 (x3_2 + (rd l0_4 x19_2))), (wrap64 (x19_2 + 1)), z4458, z4458, H', ⟨by have := HJ1.out; have := HK2.out; omega⟩, ⟨bkZ⟩, ⟨zcb41⟩⟩
         · replace c14 := Bool.eq_false_iff.mpr c14
           subst c14
           rw [if_neg (show ¬ (false = true) by decide)] at H
           obtain rfl := Option.some.inj H
           have p103 : 0 ≤ (x19_2 : Int) := of_decide_eq_true z1200
           have q103 : x19_2 < (l0_4.length : Int) := of_decide_eq_true z1200
           obtain ⟨ad103, e103, hx103_0⟩ := Kd.at_int HR0_4.out x19_2 p103 q103
           cases e103
           replace hx103_0 := (HB.out.cell (World.block_lt_of_cell? w _ hx103_0)).trans hx103_0
           replace p103 := eq_true p103
           replace q103 := eq_true q103
           go_wp2_with (first | ((with_reducible refine gate_callee (f := 64) rfl ?_); refine goesL_ (some 24) rfl rfl Try.func64 (by kernel_rfl) rfl #[.int .i64 (rd l0_4 x19_2), .int .i64 0, .int .i64 1000000000] rfl zee81 ?_; (with_reducible refine (spec_l1In.calls (rd l0_4 x19_2) 0 1000000000 false _ A13.out).mono ?_); rintro e w' ⟨rfl, ⟨nd, rfl⟩⟩; refine ⟨_, rfl, ?_⟩))
           go_ret
           exact ⟨z674d, zcb41⟩
       · rw [if_neg c10] at H
         have c10b0 : decide (x19_2 < (l0_4.length : Int)) = false := decide_eq_false c10
         clear c10
         by_cases c15 : a0_0 = 0
         · rw [if_pos c15] at H
           have c15b0 : (a0_0 == 0) = true := beq_iff_eq.mpr c15
           have c15b1 : (a0_0 != 0) = false := bne_eq_false_iff_eq.mpr c15
           clear c15
           by_cases c16 : x3_2 = 0
           · rw [if_pos c16] at H
             have c16b0 : (x3_2 == 0) = true := beq_iff_eq.mpr c16
             have c16b1 : (x3_2 != 0) = false := bne_eq_false_iff_eq.mpr c16
             clear c16
             by_cases c17 : a0_2 = 0
             · rw [if_pos c17] at H
               have c17b0 : (a0_2 == 0) = true := beq_iff_eq.mpr c17
               have c17b1 : (a0_2 != 0) = false := bne_eq_false_iff_eq.mpr c17
               clear c17
               by_cases c18 : a0_3 = 0
               · rw [if_pos c18] at H
                 have c18b0 : (a0_3 == 0) = true := beq_iff_eq.mpr c18
                 have c18b1 : (a0_3 != 0) = false := bne_eq_false_iff_eq.mpr c18
                 clear c18
                 by_cases c19 : a0_1 = 0
                 · rw [if_pos c19] at H
                   have c19b0 : (a0_1 == 0) = true := beq_iff_eq.mpr c19
                   have c19b1 : (a0_1 != 0) = false := bne_eq_false_iff_eq.mpr c19
                   clear c19
                   obtain rfl := Option.some.inj H
                   obtain ⟨hcz20_0, hcz20_1, hcz20_2, hcz20_3, hcz20_4, hcz20_5, hfz20_0, hfz20_1, hfz20_2, hfz20_3, hfz20_4, hfz20_5⟩ := cellsZ6 BK101.out
                   go_wp2
                   go_ret
                   exact ⟨z674d, zcb41⟩
                 · rw [if_neg c19] at H
                   have c19b0 : (a0_1 == 0) = false := beq_eq_false_iff_ne.mpr c19
                   have c19b1 : (a0_1 != 0) = true := bne_iff_ne.mpr c19
                   obtain rfl := Option.some.inj H
                   obtain ⟨hcz21_0, hcz21_1, hcz21_2, hcz21_3, hcz21_4, hcz21_5, hfz21_0, hfz21_1, hfz21_2, hfz21_3, hfz21_4, hfz21_5⟩ := cellsZ6 BK101.out
                   go_wp2
                   go_ret
                   exact ⟨z674d, zcb41⟩
               · rw [if_neg c18] at H
                 have c18b0 : (a0_3 == 0) = false := beq_eq_false_iff_ne.mpr c18
                 have c18b1 : (a0_3 != 0) = true := bne_iff_ne.mpr c18
                 obtain rfl := Option.some.inj H
                 obtain ⟨hcz22_0, hcz22_1, hcz22_2, hcz22_3, hcz22_4, hcz22_5, hfz22_0, hfz22_1, hfz22_2, hfz22_3, hfz22_4, hfz22_5⟩ := cellsZ6 BK101.out
                 go_wp2
                 go_ret
                 exact ⟨z674d, zcb41⟩
             · rw [if_neg c17] at H
               have c17b0 : (a0_2 == 0) = false := beq_eq_false_iff_ne.mpr c17
               have c17b1 : (a0_2 != 0) = true := bne_iff_ne.mpr c17
               obtain rfl := Option.some.inj H
               obtain ⟨hcz23_0, hcz23_1, hcz23_2, hcz23_3, hcz23_4, hcz23_5, hfz23_0, hfz23_1, hfz23_2, hfz23_3, hfz23_4, hfz23_5⟩ := cellsZ6 BK101.out
               go_wp2
               go_ret
               exact ⟨z674d, zcb41⟩
           · rw [if_neg c16] at H
             have c16b0 : (x3_2 == 0) = false := beq_eq_false_iff_ne.mpr c16
             have c16b1 : (x3_2 != 0) = true := bne_iff_ne.mpr c16
             obtain rfl := Option.some.inj H
             obtain ⟨hcz24_0, hcz24_1, hcz24_2, hcz24_3, hcz24_4, hcz24_5, hfz24_0, hfz24_1, hfz24_2, hfz24_3, hfz24_4, hfz24_5⟩ := cellsZ6 BK101.out
             go_wp2
             go_ret
             exact ⟨z674d, zcb41⟩
         · rw [if_neg c15] at H
           have c15b0 : (a0_0 == 0) = false := beq_eq_false_iff_ne.mpr c15
           have c15b1 : (a0_0 != 0) = true := bne_iff_ne.mpr c15
           have HC25 := aM H
           clear H
           obtain ⟨hcz26_0, hcz26_1, hcz26_2, hcz26_3, hcz26_4, hcz26_5, hfz26_0, hfz26_1, hfz26_2, hfz26_3, hfz26_4, hfz26_5⟩ := cellsZ6 BK101.out
           go_upto_region 13 with (fail)
           go_cut [71] (fun v71 wc => ∃ (kq : Nat) (x71_24 : Bool), v71 = .bool x71_24 ∧ Aside0 (spec_GoodAgg.j2 kq x3_2 x71_24 a0_0 a0_1 a0_2 a0_3 l0_4 a0_5 = some r) ∧ Aside0 (kq ≤ k2) ∧ Aside0 (wc.heap[gb101]? = some (.cells #[.int .i64 a0_0, .int .i64 a0_1, .int .i64 a0_2, .int .i64 a0_3, (.slice A0_4 l0_4.length c0_4), .bool a0_5] 26 (0, 0))) ∧ Aside0 (Below w.heap.size w wc))
           case first =>
            have H := HC25.out
            clear HC25
            replace H := Option.bind_eq_some_iff.mp H
            obtain ⟨t105, A270, H⟩ := H
            try dsimp only at H
            have A27 := aM A270
            clear A270
            by_cases c28 : t105 = true
            · subst c28
              rw [if_pos rfl] at H
              replace H := Option.bind_eq_some_iff.mp H
              obtain ⟨t106, A290, H⟩ := H
              try dsimp only at H
              have A29 := aM A290
              clear A290
              by_cases c30 : t106 = true
              · subst c30
                rw [if_pos rfl] at H
                have H' := aM H
                clear H
                obtain ⟨hcz31_0, hcz31_1, hcz31_2, hcz31_3, hcz31_4, hcz31_5, hfz31_0, hfz31_1, hfz31_2, hfz31_3, hfz31_4, hfz31_5⟩ := cellsZ6 BK101.out
                go_wp2_with (first | ((with_reducible refine gate_callee (f := 94) rfl ?_); refine goesL_ (some 57) rfl rfl Try.func94 (by kernel_rfl) rfl #[.int .i64 a0_2] rfl zee81 ?_; (with_reducible refine (spec_l4Value.calls a0_2 true _ A27.out).mono ?_); rintro e w' ⟨rfl, ⟨nd, rfl⟩⟩; refine ⟨_, rfl, ?_⟩) | (go_at_call 94; (with_reducible refine (spec_l4Value.calls a0_3 true _ A29.out).mono ?_); rintro e w' ⟨rfl, ⟨nd, rfl⟩⟩))
                go_meet
                case rel => exact ⟨_, (decide (a0_2 > a0_3)), z4458, H', ⟨zdc19⟩, ⟨bkZ⟩, ⟨zcb41⟩⟩
              · replace c30 := Bool.eq_false_iff.mpr c30
                subst c30
                rw [if_neg (show ¬ (false = true) by decide)] at H
                have H' := aM H
                clear H
                obtain ⟨hcz32_0, hcz32_1, hcz32_2, hcz32_3, hcz32_4, hcz32_5, hfz32_0, hfz32_1, hfz32_2, hfz32_3, hfz32_4, hfz32_5⟩ := cellsZ6 BK101.out
                go_wp2_with (first | ((with_reducible refine gate_callee (f := 94) rfl ?_); refine goesL_ (some 57) rfl rfl Try.func94 (by kernel_rfl) rfl #[.int .i64 a0_2] rfl zee81 ?_; (with_reducible refine (spec_l4Value.calls a0_2 true _ A27.out).mono ?_); rintro e w' ⟨rfl, ⟨nd, rfl⟩⟩; refine ⟨_, rfl, ?_⟩) | (go_at_call 94; (with_reducible refine (spec_l4Value.calls a0_3 false _ A29.out).mono ?_); rintro e w' ⟨rfl, ⟨nd, rfl⟩⟩))
                go_meet
                case rel => exact ⟨_, (true), z4458, H', ⟨zdc19⟩, ⟨bkZ⟩, ⟨zcb41⟩⟩
            · replace c28 := Bool.eq_false_iff.mpr c28
              subst c28
              rw [if_neg (show ¬ (false = true) by decide)] at H
              have H' := aM H
              clear H
              obtain ⟨hcz33_0, hcz33_1, hcz33_2, hcz33_3, hcz33_4, hcz33_5, hfz33_0, hfz33_1, hfz33_2, hfz33_3, hfz33_4, hfz33_5⟩ := cellsZ6 BK101.out
              go_wp2_with (first | ((with_reducible refine gate_callee (f := 94) rfl ?_); refine goesL_ (some 57) rfl rfl Try.func94 (by kernel_rfl) rfl #[.int .i64 a0_2] rfl zee81 ?_; (with_reducible refine (spec_l4Value.calls a0_2 false _ A27.out).mono ?_); rintro e w' ⟨rfl, ⟨nd, rfl⟩⟩; refine ⟨_, rfl, ?_⟩))
              go_meet
              case rel => exact ⟨_, (true), z4458, H', ⟨zdc19⟩, ⟨bkZ⟩, ⟨zcb41⟩⟩
           case rest =>
            clear HC25
            try clear c1
            try clear p1
            try clear q1
            try clear hx1
            try clear c2
            try clear p2
            try clear c3
            try clear c5
            try clear c6
            try clear p6
            try clear c7
            try clear c8
            try clear c9
            try clear c10
            try clear c10b0
            try clear p10
            try clear q10
            try clear hx10
            try clear c11
            try clear c11b0
            try clear c12
            try clear c12b0
            try clear c14
            try clear c15
            try clear c15b0
            try clear c15b1
            try clear c16
            try clear c16b0
            try clear c16b1
            try clear c17
            try clear c17b0
            try clear c17b1
            try clear c18
            try clear c18b0
            try clear c18b1
            try clear c19
            try clear c19b0
            try clear c19b1
            try clear c28
            try clear c30
            try clear hcz20_0 hcz20_1 hcz20_2 hcz20_3 hcz20_4 hcz20_5
            try clear hcz21_0 hcz21_1 hcz21_2 hcz21_3 hcz21_4 hcz21_5
            try clear hcz22_0 hcz22_1 hcz22_2 hcz22_3 hcz22_4 hcz22_5
            try clear hcz23_0 hcz23_1 hcz23_2 hcz23_3 hcz23_4 hcz23_5
            try clear hcz24_0 hcz24_1 hcz24_2 hcz24_3 hcz24_4 hcz24_5
            try clear hcz26_0 hcz26_1 hcz26_2 hcz26_3 hcz26_4 hcz26_5
            try clear hcz31_0 hcz31_1 hcz31_2 hcz31_3 hcz31_4 hcz31_5
            try clear hcz32_0 hcz32_1 hcz32_2 hcz32_3 hcz32_4 hcz32_5
            try clear hcz33_0 hcz33_1 hcz33_2 hcz33_3 hcz33_4 hcz33_5
            try clear hcz6_0 hcz6_1 hcz6_2 hcz6_3 hcz6_4 hcz6_5
            try clear hcz7_0 hcz7_1 hcz7_2 hcz7_3 hcz7_4 hcz7_5
            try clear hcz9_0 hcz9_1 hcz9_2 hcz9_3 hcz9_4 hcz9_5
            try clear hfz20_0 hfz20_1 hfz20_2 hfz20_3 hfz20_4 hfz20_5
            try clear hfz21_0 hfz21_1 hfz21_2 hfz21_3 hfz21_4 hfz21_5
            try clear hfz22_0 hfz22_1 hfz22_2 hfz22_3 hfz22_4 hfz22_5
            try clear hfz23_0 hfz23_1 hfz23_2 hfz23_3 hfz23_4 hfz23_5
            try clear hfz24_0 hfz24_1 hfz24_2 hfz24_3 hfz24_4 hfz24_5
            try clear hfz26_0 hfz26_1 hfz26_2 hfz26_3 hfz26_4 hfz26_5
            try clear hfz31_0 hfz31_1 hfz31_2 hfz31_3 hfz31_4 hfz31_5
            try clear hfz32_0 hfz32_1 hfz32_2 hfz32_3 hfz32_4 hfz32_5
            try clear hfz33_0 hfz33_1 hfz33_2 hfz33_3 hfz33_4 hfz33_5
            try clear hfz6_0 hfz6_1 hfz6_2 hfz6_3 hfz6_4 hfz6_5
            try clear hfz7_0 hfz7_1 hfz7_2 hfz7_3 hfz7_4 hfz7_5
            try clear hfz9_0 hfz9_1 hfz9_2 hfz9_3 hfz9_4 hfz9_5
            try clear hx103_0
            try clear p103
            try clear p2
            try clear q103
            obtain ⟨kq, x71_24, rfl, HA, HJ24, BK101, HB⟩ := hcut
            cases kq with
            | zero => exact absurd HA.out (by simp [spec_GoodAgg.j2])
            | succ kj24 =>
             have H := HA.out
             clear HA
             simp only [spec_GoodAgg.j2] at H
             by_cases c34 : x71_24 = true
             · subst c34
               rw [if_pos rfl] at H
               obtain rfl := Option.some.inj H
               go_wp2
               go_ret
               exact ⟨z674d, zcb41⟩
             · replace c34 := Bool.eq_false_iff.mpr c34
               subst c34
               rw [if_neg (show ¬ (false = true) by decide)] at H
               by_cases c35 : a0_5 = true
               · subst c35
                 rw [if_pos rfl] at H
                 obtain rfl := Option.some.inj H
                 obtain ⟨hcz36_0, hcz36_1, hcz36_2, hcz36_3, hcz36_4, hcz36_5, hfz36_0, hfz36_1, hfz36_2, hfz36_3, hfz36_4, hfz36_5⟩ := cellsZ6 BK101.out
                 go_wp2
                 go_ret
                 exact ⟨z674d, zcb41⟩
               · replace c35 := Bool.eq_false_iff.mpr c35
                 subst c35
                 rw [if_neg (show ¬ (false = true) by decide)] at H
                 by_cases c37 : x3_2 = a0_0
                 · rw [if_pos c37] at H
                   have c37b0 : (x3_2 == a0_0) = true := beq_iff_eq.mpr c37
                   have c37b1 : (x3_2 != a0_0) = false := bne_eq_false_iff_eq.mpr c37
                   clear c37
                   replace H := Option.bind_eq_some_iff.mp H
                   obtain ⟨t107, A380, H⟩ := H
                   try dsimp only at H
                   have A38 := aM A380
                   clear A380
                   obtain rfl := Option.some.inj H
                   obtain ⟨hcz39_0, hcz39_1, hcz39_2, hcz39_3, hcz39_4, hcz39_5, hfz39_0, hfz39_1, hfz39_2, hfz39_3, hfz39_4, hfz39_5⟩ := cellsZ6 BK101.out
                   go_wp2_with (first | (go_at_call 64; (with_reducible refine (spec_l1In.calls a0_1 (wrap64 ((-1000000000) * a0_0)) (wrap64 (1000000000 * a0_0)) t107 _ A38.out).mono ?_); rintro e w' ⟨rfl, ⟨nd, rfl⟩⟩))
                   go_ret
                   exact ⟨z674d, zcb41⟩
                 · rw [if_neg c37] at H
                   have c37b0 : (x3_2 == a0_0) = false := beq_eq_false_iff_ne.mpr c37
                   have c37b1 : (x3_2 != a0_0) = true := bne_iff_ne.mpr c37
                   obtain rfl := Option.some.inj H
                   obtain ⟨hcz40_0, hcz40_1, hcz40_2, hcz40_3, hcz40_4, hcz40_5, hfz40_0, hfz40_1, hfz40_2, hfz40_3, hfz40_4, hfz40_5⟩ := cellsZ6 BK101.out
                   go_wp2
                   go_ret
                   exact ⟨z674d, zcb41⟩

end Go.Proofs.Ytdkokfnnebdppaa.P

-- written by a program of this session's (wip/pp)
namespace Go.Proofs.Ytdkokfnnebdppaa.P
open Go.RowKit Go.Proofs.YtdkokfnnebdppaaW.PrintWords Go.Proofs.YtdkokfnnebdppaaW.PrintLast Go.Proofs.YtdkokfnnebdppaaW.PrintMore
attribute [local go_sem] max2_int min2_int max_two min_two max_three min_three max_four min_four str_geq str_gtr str_leq   -- for this text's walks alone
set_option linter.unusedVariables false
set_option linter.unusedSimpArgs false

/-! ### spec_l5Zero: function 77 -/
def spec_l5Zero.f (a0_0 : Int) (a0_1 : Int) (a0_2 : Int) (a0_3 : Int) (l0_4 : List Int) (a0_5 : Bool) : Option (Bool) := if a0_0 = 0 then (if a0_1 = 0 then (if a0_2 = 0 then (if a0_3 = 0 then (if (l0_4.length : Int) = 0 then (some (!a0_5)) else (some false)) else (some false)) else (some false)) else (some false)) else (some false)
set_option maxHeartbeats 8000000 in
set_option maxRecDepth 100000 in
theorem spec_l5Zero.calls (a0_0 : Int) (a0_1 : Int) (a0_2 : Int) (a0_3 : Int) (A0_4 : Option Addr) (c0_4 : Nat) (l0_4 : List Int) (a0_5 : Bool) (r : Bool) (w : World) (hr0_4 : Kd.C (Kd.int .i64) w A0_4 l0_4.length l0_4) (hc0_4 : l0_4.length ≤ c0_4) (h : spec_l5Zero.f a0_0 a0_1 a0_2 a0_3 l0_4 a0_5 = some r) :
 Calls Try.prog 77 #[.agg #[.int .i64 a0_0, .int .i64 a0_1, .int .i64 a0_2, .int .i64 a0_3, .slice A0_4 l0_4.length c0_4, .bool a0_5]] w fun e w' => e = .returned (.bool r) ∧ Below w.heap.size w w' := by
 have hu26 := Try.underlying26
 have HR0_4 := aM hr0_4
 have HC0_4 := aM hc0_4
 clear hr0_4 hc0_4
 have HB := aM (Below.refl w.heap.size w)
 have H : (if a0_0 = 0 then (if a0_1 = 0 then (if a0_2 = 0 then (if a0_3 = 0 then (if (l0_4.length : Int) = 0 then (some (!a0_5)) else (some false)) else (some false)) else (some false)) else (some false)) else (some false)) = some r := h
 clear h
 by_cases c2 : a0_0 = 0
 · rw [if_pos c2] at H
   have c2b0 : (a0_0 == 0) = true := beq_iff_eq.mpr c2
   have c2b1 : (a0_0 != 0) = false := bne_eq_false_iff_eq.mpr c2
   clear c2
   by_cases c3 : a0_1 = 0
   · rw [if_pos c3] at H
     have c3b0 : (a0_1 == 0) = true := beq_iff_eq.mpr c3
     have c3b1 : (a0_1 != 0) = false := bne_eq_false_iff_eq.mpr c3
     clear c3
     by_cases c4 : a0_2 = 0
     · rw [if_pos c4] at H
       have c4b0 : (a0_2 == 0) = true := beq_iff_eq.mpr c4
       have c4b1 : (a0_2 != 0) = false := bne_eq_false_iff_eq.mpr c4
       clear c4
       by_cases c5 : a0_3 = 0
       · rw [if_pos c5] at H
         have c5b0 : (a0_3 == 0) = true := beq_iff_eq.mpr c5
         have c5b1 : (a0_3 != 0) = false := bne_eq_false_iff_eq.mpr c5
         clear c5
         by_cases c6 : (l0_4.length : Int) = 0
         · rw [if_pos c6] at H
           have c6b0 : ((l0_4.length : Int) == 0) = true := beq_iff_eq.mpr c6
           have c6b1 : ((l0_4.length : Int) != 0) = false := bne_eq_false_iff_eq.mpr c6
           clear c6
           obtain rfl := Option.some.inj H
           go_enter Try.func77, Try.ntmps77
           go_wp2_with (first | ((with_reducible refine gate_dst (N := 1) rfl ?_); (try (refine gate_guard (by rfl) ?_; dsimp only)); refine box_event ?hg (N := 1) ?hd (cs := #[.int .i64 a0_0, .int .i64 a0_1, .int .i64 a0_2, .int .i64 a0_3, .slice A0_4 l0_4.length c0_4, .bool a0_5]) (t := 26) ?hr ?_; (case hd => rfl); (case hg => rfl); (case hr => first | (go_simp; done) | (go_simp; rfl)); intro gb101 hg w7 hbox hb; have _ := aM (below_step hbZ hb); have _ := aM hbox; have _ := szZ hg; have _ := szZ hg; clear HB; rename_i HB BK101 GW101 GE101; clear hb hbox hg; obtain ⟨hcz8_0, hcz8_1, hcz8_2, hcz8_3, hcz8_4, hcz8_5, hfz8_0, hfz8_1, hfz8_2, hfz8_3, hfz8_4, hfz8_5⟩ := cellsZ6 BK101.out))
           go_ret
           exact ⟨z674d, zcb41⟩
         · rw [if_neg c6] at H
           have c6b0 : ((l0_4.length : Int) == 0) = false := beq_eq_false_iff_ne.mpr c6
           have c6b1 : ((l0_4.length : Int) != 0) = true := bne_iff_ne.mpr c6
           have c6b2 : ¬ (l0_4 = []) := fun h_ => c6 (by rw [h_]; rfl)
           obtain rfl := Option.some.inj H
           go_enter Try.func77, Try.ntmps77
           go_wp2_with (first | ((with_reducible refine gate_dst (N := 1) rfl ?_); (try (refine gate_guard (by rfl) ?_; dsimp only)); refine box_event ?hg (N := 1) ?hd (cs := #[.int .i64 a0_0, .int .i64 a0_1, .int .i64 a0_2, .int .i64 a0_3, .slice A0_4 l0_4.length c0_4, .bool a0_5]) (t := 26) ?hr ?_; (case hd => rfl); (case hg => rfl); (case hr => first | (go_simp; done) | (go_simp; rfl)); intro gb101 hg w9 hbox hb; have _ := aM (below_step hbZ hb); have _ := aM hbox; have _ := szZ hg; have _ := szZ hg; clear HB; rename_i HB BK101 GW101 GE101; clear hb hbox hg; obtain ⟨hcz10_0, hcz10_1, hcz10_2, hcz10_3, hcz10_4, hcz10_5, hfz10_0, hfz10_1, hfz10_2, hfz10_3, hfz10_4, hfz10_5⟩ := cellsZ6 BK101.out))
           go_ret
           exact ⟨z674d, zcb41⟩
       · rw [if_neg c5] at H
         have c5b0 : (a0_3 == 0) = false := beq_eq_false_iff_ne.mpr c5
         have c5b1 : (a0_3 != 0) = true := bne_iff_ne.mpr c5
         obtain rfl := Option.some.inj H
         go_enter Try.func77, Try.ntmps77
         go_wp2_with (first | ((with_reducible refine gate_dst (N := 1) rfl ?_); (try (refine gate_guard (by rfl) ?_; dsimp only)); refine box_event ?hg (N := 1) ?hd (cs := #[.int .i64 a0_0, .int .i64 a0_1, .int .i64 a0_2, .int .i64 a0_3, .slice A0_4 l0_4.length c0_4, .bool a0_5]) (t := 26) ?hr ?_; (case hd => rfl); (case hg => rfl); (case hr => first | (go_simp; done) | (go_simp; rfl)); intro gb101 hg w11 hbox hb; have _ := aM (below_step hbZ hb); have _ := aM hbox; have _ := szZ hg; have _ := szZ hg; clear HB; rename_i HB BK101 GW101 GE101; clear hb hbox hg; obtain ⟨hcz12_0, hcz12_1, hcz12_2, hcz12_3, hcz12_4, hcz12_5, hfz12_0, hfz12_1, hfz12_2, hfz12_3, hfz12_4, hfz12_5⟩ := cellsZ6 BK101.out))
         go_ret
         exact ⟨z674d, zcb41⟩
     · rw [if_neg c4] at H
       have c4b0 : (a0_2 == 0) = false := beq_eq_false_iff_ne.mpr c4
       have c4b1 : (a0_2 != 0) = true := bne_iff_ne.mpr c4
       obtain rfl := Option.some.inj H
       go_enter Try.func77, Try.ntmps77
       go_wp2_with (first | ((with_reducible refine gate_dst (N := 1) rfl ?_); (try (refine gate_guard (by rfl) ?_; dsimp only)); refine box_event ?hg (N := 1) ?hd (cs := #[.int .i64 a0_0, .int .i64 a0_1, .int .i64 a0_2, .int .i64 a0_3, .slice A0_4 l0_4.length c0_4, .bool a0_5]) (t := 26) ?hr ?_; (case hd => rfl); (case hg => rfl); (case hr => first | (go_simp; done) | (go_simp; rfl)); intro gb101 hg w13 hbox hb; have _ := aM (below_step hbZ hb); have _ := aM hbox; have _ := szZ hg; have _ := szZ hg; clear HB; rename_i HB BK101 GW101 GE101; clear hb hbox hg; obtain ⟨hcz14_0, hcz14_1, hcz14_2, hcz14_3, hcz14_4, hcz14_5, hfz14_0, hfz14_1, hfz14_2, hfz14_3, hfz14_4, hfz14_5⟩ := cellsZ6 BK101.out))
       go_ret
       exact ⟨z674d, zcb41⟩
   · rw [if_neg c3] at H
     have c3b0 : (a0_1 == 0) = false := beq_eq_false_iff_ne.mpr c3
     have c3b1 : (a0_1 != 0) = true := bne_iff_ne.mpr c3
     obtain rfl := Option.some.inj H
     go_enter Try.func77, Try.ntmps77
     go_wp2_with (first | ((with_reducible refine gate_dst (N := 1) rfl ?_); (try (refine gate_guard (by rfl) ?_; dsimp only)); refine box_event ?hg (N := 1) ?hd (cs := #[.int .i64 a0_0, .int .i64 a0_1, .int .i64 a0_2, .int .i64 a0_3, .slice A0_4 l0_4.length c0_4, .bool a0_5]) (t := 26) ?hr ?_; (case hd => rfl); (case hg => rfl); (case hr => first | (go_simp; done) | (go_simp; rfl)); intro gb101 hg w15 hbox hb; have _ := aM (below_step hbZ hb); have _ := aM hbox; have _ := szZ hg; have _ := szZ hg; clear HB; rename_i HB BK101 GW101 GE101; clear hb hbox hg; obtain ⟨hcz16_0, hcz16_1, hcz16_2, hcz16_3, hcz16_4, hcz16_5, hfz16_0, hfz16_1, hfz16_2, hfz16_3, hfz16_4, hfz16_5⟩ := cellsZ6 BK101.out))
     go_ret
     exact ⟨z674d, zcb41⟩
 · rw [if_neg c2] at H
   have c2b0 : (a0_0 == 0) = false := beq_eq_false_iff_ne.mpr c2
   have c2b1 : (a0_0 != 0) = true := bne_iff_ne.mpr c2
   obtain rfl := Option.some.inj H
   go_enter Try.func77, Try.ntmps77
   go_wp2_with (first | ((with_reducible refine gate_dst (N := 1) rfl ?_); (try (refine gate_guard (by rfl) ?_; dsimp only)); refine box_event ?hg (N := 1) ?hd (cs := #[.int .i64 a0_0, .int .i64 a0_1, .int .i64 a0_2, .int .i64 a0_3, .slice A0_4 l0_4.length c0_4, .bool a0_5]) (t := 26) ?hr ?_; (case hd => rfl); (case hg => rfl); (case hr => first | (go_simp; done) | (go_simp; rfl)); intro gb101 hg w17 hbox hb; have _ := aM (below_step hbZ hb); have _ := aM hbox; have _ := szZ hg; have _ := szZ hg; clear HB; rename_i HB BK101 GW101 GE101; clear hb hbox hg; obtain ⟨hcz18_0, hcz18_1, hcz18_2, hcz18_3, hcz18_4, hcz18_5, hfz18_0, hfz18_1, hfz18_2, hfz18_3, hfz18_4, hfz18_5⟩ := cellsZ6 BK101.out))
   go_ret
   exact ⟨z674d, zcb41⟩

end Go.Proofs.Ytdkokfnnebdppaa.P

-- written by a program of this session's (wip/pp)
namespace Go.Proofs.Ytdkokfnnebdppaa.P
open Go.RowKit Go.Proofs.YtdkokfnnebdppaaW.PrintWords Go.Proofs.YtdkokfnnebdppaaW.PrintLast Go.Proofs.YtdkokfnnebdppaaW.PrintMore
attribute [local go_sem] max2_int min2_int max_two min_two max_three min_three max_four min_four str_geq str_gtr str_leq   -- for this text's walks alone
set_option linter.unusedVariables false
set_option linter.unusedSimpArgs false

/-! ### spec_GoodEntry: function 43 -/
mutual
def spec_GoodEntry.j0 : Nat → Bool → ByteArray → Int → Int → Int → Int → Int → Int → List Int → Bool → Option (Bool)
 | 0, _, _, _, _, _, _, _, _, _, _ => none
 | k + 1, x13, x102000, x102001, x102002, x102003, x102004, x102005, x102006, x102007, x102008 => if x13 = true then (some false) else (if x102002 = 1 then (spec_GoodEntry.j1 k x102002 (x102002 == 1) x102000 x102001 x102002 x102003 x102004 x102005 x102006 x102007 x102008) else (spec_GoodEntry.j1 k x102002 (x102002 == 3) x102000 x102001 x102002 x102003 x102004 x102005 x102006 x102007 x102008))
def spec_GoodEntry.j1 : Nat → Int → Bool → ByteArray → Int → Int → Int → Int → Int → Int → List Int → Bool → Option (Bool)
 | 0, _, _, _, _, _, _, _, _, _, _, _ => none
 | k + 1, x15, x16, x102000, x102001, x102002, x102003, x102004, x102005, x102006, x102007, x102008 => if x16 = true then ((spec_GoodAgg.f k x102003 x102004 x102005 x102006 x102007 x102008).bind fun t104 => (some t104)) else (if x15 = 2 then ((spec_l5Zero.f x102003 x102004 x102005 x102006 x102007 x102008).bind fun t105 => (some t105)) else (some false))
end
def spec_GoodEntry.f (k : Nat) (a0_0 : ByteArray) (a0_1 : Int) (a0_2 : Int) (a0_3 : Int) (a0_4 : Int) (a0_5 : Int) (a0_6 : Int) (l0_7 : List Int) (a0_8 : Bool) : Option (Bool) := (spec_l1In.f (a0_0.size : Int) 1 140).bind fun t102 => (if t102 = true then ((spec_l1In.f a0_1 1 1000000000).bind fun t103 => (spec_GoodEntry.j0 k (!t103) a0_0 a0_1 a0_2 a0_3 a0_4 a0_5 a0_6 l0_7 a0_8)) else (spec_GoodEntry.j0 k true a0_0 a0_1 a0_2 a0_3 a0_4 a0_5 a0_6 l0_7 a0_8))
theorem spec_GoodEntry.mono_l : ∀ k, (∀ y0 y1 y2 y3 y4 y5 y6 y7 y8 y9, LeO (spec_GoodEntry.j0 k y0 y1 y2 y3 y4 y5 y6 y7 y8 y9) (spec_GoodEntry.j0 (k + 1) y0 y1 y2 y3 y4 y5 y6 y7 y8 y9)) ∧ (∀ y0 y1 y2 y3 y4 y5 y6 y7 y8 y9 y10, LeO (spec_GoodEntry.j1 k y0 y1 y2 y3 y4 y5 y6 y7 y8 y9 y10) (spec_GoodEntry.j1 (k + 1) y0 y1 y2 y3 y4 y5 y6 y7 y8 y9 y10))
 | 0 => ⟨fun _ _ _ _ _ _ _ _ _ _ r h => by simp [spec_GoodEntry.j0] at h, fun _ _ _ _ _ _ _ _ _ _ _ r h => by simp [spec_GoodEntry.j1] at h⟩
 | k + 1 => by
  obtain ⟨ih0, ih1⟩ := spec_GoodEntry.mono_l k
  refine ⟨?_, ?_⟩
  · intro y0 y1 y2 y3 y4 y5 y6 y7 y8 y9
    unfold spec_GoodEntry.j0
    repeat' first
     | (with_reducible first | exact ih0 .. | exact ih1 .. | exact spec_GoodAgg.mono .. | exact LeO.refl _ | exact LeO.none _ | refine LeO.ite ?_ ?_ | refine LeO.bind ?_ (fun _ => ?_))
     | exact LeO.none _
     | refine LeO.ite ?_ ?_
     | refine LeO.bind ?_ (fun _ => ?_)
  · intro y0 y1 y2 y3 y4 y5 y6 y7 y8 y9 y10
    unfold spec_GoodEntry.j1
    repeat' first
     | (with_reducible first | exact ih0 .. | exact ih1 .. | exact spec_GoodAgg.mono .. | exact LeO.refl _ | exact LeO.none _ | refine LeO.ite ?_ ?_ | refine LeO.bind ?_ (fun _ => ?_))
     | exact LeO.none _
     | refine LeO.ite ?_ ?_
     | refine LeO.bind ?_ (fun _ => ?_)
theorem spec_GoodEntry.mono : ∀ a0 a1 a2 a3 a4 a5 a6 a7 a8 k, LeO (spec_GoodEntry.f k a0 a1 a2 a3 a4 a5 a6 a7 a8) (spec_GoodEntry.f (k + 1) a0 a1 a2 a3 a4 a5 a6 a7 a8) := by
 intro a0 a1 a2 a3 a4 a5 a6 a7 a8 k
 obtain ⟨ih0, ih1⟩ := spec_GoodEntry.mono_l k
 unfold spec_GoodEntry.f
 repeat' first
  | (with_reducible first | exact ih0 .. | exact ih1 .. | exact spec_GoodAgg.mono .. | exact LeO.refl _ | exact LeO.none _ | refine LeO.ite ?_ ?_ | refine LeO.bind ?_ (fun _ => ?_))
  | exact LeO.none _
  | refine LeO.ite ?_ ?_
  | refine LeO.bind ?_ (fun _ => ?_)
set_option maxHeartbeats 8000000 in
set_option maxRecDepth 100000 in
theorem spec_GoodEntry.calls (k : Nat) (a0_0 : ByteArray) (a0_1 : Int) (a0_2 : Int) (a0_3 : Int) (a0_4 : Int) (a0_5 : Int) (a0_6 : Int) (A0_7 : Option Addr) (c0_7 : Nat) (l0_7 : List Int) (a0_8 : Bool) (r : Bool) (w : World) (hr0_7 : Kd.C (Kd.int .i64) w A0_7 l0_7.length l0_7) (hc0_7 : l0_7.length ≤ c0_7) (h : spec_GoodEntry.f k a0_0 a0_1 a0_2 a0_3 a0_4 a0_5 a0_6 l0_7 a0_8 = some r) :
 Calls Try.prog 43 #[.agg #[.string a0_0, .int .i64 a0_1, .int .i64 a0_2, .int .i64 a0_3, .int .i64 a0_4, .int .i64 a0_5, .int .i64 a0_6, .slice A0_7 l0_7.length c0_7, .bool a0_8]] w fun e w' => e = .returned (.bool r) ∧ Below w.heap.size w w' := by
 have hu45 := Try.underlying45
 have hu26 := Try.underlying26
 have HR0_7 := aM hr0_7
 have HC0_7 := aM hc0_7
 clear hr0_7 hc0_7
 have HB := aM (Below.refl w.heap.size w)
 have H : ((spec_l1In.f (a0_0.size : Int) 1 140).bind fun t102 => (if t102 = true then ((spec_l1In.f a0_1 1 1000000000).bind fun t103 => (spec_GoodEntry.j0 k (!t103) a0_0 a0_1 a0_2 a0_3 a0_4 a0_5 a0_6 l0_7 a0_8)) else (spec_GoodEntry.j0 k true a0_0 a0_1 a0_2 a0_3 a0_4 a0_5 a0_6 l0_7 a0_8))) = some r := h
 clear h
 have HC2 := aM H
 clear H
 go_enter Try.func43, Try.ntmps43
 go_upto_region 1 with (first | ((with_reducible refine gate_dst (N := 1) rfl ?_); refine box_event ?hg (N := 1) ?hd (cs := #[.string a0_0, .int .i64 a0_1, .int .i64 a0_2, .int .i64 a0_3, .int .i64 a0_4, .int .i64 a0_5, .int .i64 a0_6, .slice A0_7 l0_7.length c0_7, .bool a0_8]) (t := 45) ?hr ?_; (case hd => rfl); (case hg => rfl); (case hr => first | (go_simp; done) | (go_simp; rfl)); intro gb101 hg w3 hbox hb; have _ := aM (below_step hbZ hb); have _ := aM hbox; have _ := szZ hg; have _ := szZ hg; clear HB; rename_i HB BK101 GW101 GE101; clear hb hbox hg))
 (try simp only [Act.put, List.setIfInBounds_toArray, List.set_cons_zero, List.set_cons_succ])
 go_cut [13] (fun v13 wc => ∃ (kq : Nat) (x13_1 : Bool), v13 = .bool x13_1 ∧ Aside0 (spec_GoodEntry.j0 kq x13_1 a0_0 a0_1 a0_2 a0_3 a0_4 a0_5 a0_6 l0_7 a0_8 = some r) ∧ Aside0 (kq ≤ k) ∧ Aside0 (wc.heap[gb101]? = some (.cells #[.string a0_0, .int .i64 a0_1, .int .i64 a0_2, .int .i64 a0_3, .int .i64 a0_4, .int .i64 a0_5, .int .i64 a0_6, (.slice A0_7 l0_7.length c0_7), .bool a0_8] 45 (0, 0))) ∧ Aside0 (Below w.heap.size w wc))
 case first =>
  have H := HC2.out
  clear HC2
  replace H := Option.bind_eq_some_iff.mp H
  obtain ⟨t102, A40, H⟩ := H
  try dsimp only at H
  have A4 := aM A40
  clear A40
  by_cases c5 : t102 = true
  · subst c5
    rw [if_pos rfl] at H
    replace H := Option.bind_eq_some_iff.mp H
    obtain ⟨t103, A60, H⟩ := H
    try dsimp only at H
    have A6 := aM A60
    clear A60
    have H' := aM H
    clear H
    obtain ⟨hcz7_0, hcz7_1, hcz7_2, hcz7_3, hcz7_4, hcz7_5, hcz7_6, hcz7_7, hcz7_8, hfz7_0, hfz7_1, hfz7_2, hfz7_3, hfz7_4, hfz7_5, hfz7_6, hfz7_7, hfz7_8⟩ := cellsZ9 BK101.out
    go_wp2_with (first | ((with_reducible refine gate_callee (f := 64) rfl ?_); refine goesL_ (some 6) rfl rfl Try.func64 (by kernel_rfl) rfl #[.int .i64 (a0_0.size : Int), .int .i64 1, .int .i64 140] rfl zee81 ?_; (with_reducible refine (spec_l1In.calls (a0_0.size : Int) 1 140 true _ A4.out).mono ?_); rintro e w' ⟨rfl, ⟨nd, rfl⟩⟩; refine ⟨_, rfl, ?_⟩) | (go_at_call 64; (with_reducible refine (spec_l1In.calls a0_1 1 1000000000 t103 _ A6.out).mono ?_); rintro e w' ⟨rfl, ⟨nd, rfl⟩⟩))
    go_meet
    case rel => exact ⟨_, (!t103), z4458, H', ⟨zb79b⟩, ⟨bkZ⟩, ⟨zcb41⟩⟩
  · replace c5 := Bool.eq_false_iff.mpr c5
    subst c5
    rw [if_neg (show ¬ (false = true) by decide)] at H
    have H' := aM H
    clear H
    obtain ⟨hcz8_0, hcz8_1, hcz8_2, hcz8_3, hcz8_4, hcz8_5, hcz8_6, hcz8_7, hcz8_8, hfz8_0, hfz8_1, hfz8_2, hfz8_3, hfz8_4, hfz8_5, hfz8_6, hfz8_7, hfz8_8⟩ := cellsZ9 BK101.out
    go_wp2_with (first | ((with_reducible refine gate_callee (f := 64) rfl ?_); refine goesL_ (some 6) rfl rfl Try.func64 (by kernel_rfl) rfl #[.int .i64 (a0_0.size : Int), .int .i64 1, .int .i64 140] rfl zee81 ?_; (with_reducible refine (spec_l1In.calls (a0_0.size : Int) 1 140 false _ A4.out).mono ?_); rintro e w' ⟨rfl, ⟨nd, rfl⟩⟩; refine ⟨_, rfl, ?_⟩))
    go_meet
    case rel => exact ⟨_, (true), z4458, H', ⟨zb79b⟩, ⟨bkZ⟩, ⟨zcb41⟩⟩
 case rest =>
  clear HC2
  try clear p2
  try clear c4
  try clear c5
  try clear c6
  try clear hcz7_0 hcz7_1 hcz7_2 hcz7_3 hcz7_4 hcz7_5 hcz7_6 hcz7_7 hcz7_8
  try clear hcz8_0 hcz8_1 hcz8_2 hcz8_3 hcz8_4 hcz8_5 hcz8_6 hcz8_7 hcz8_8
  try clear hfz7_0 hfz7_1 hfz7_2 hfz7_3 hfz7_4 hfz7_5 hfz7_6 hfz7_7 hfz7_8
  try clear hfz8_0 hfz8_1 hfz8_2 hfz8_3 hfz8_4 hfz8_5 hfz8_6 hfz8_7 hfz8_8
  obtain ⟨kq, x13_1, rfl, HA, HJ1, BK101, HB⟩ := hcut
  cases kq with
  | zero => exact absurd HA.out (by simp [spec_GoodEntry.j0])
  | succ kj1 =>
   have H := HA.out
   clear HA
   simp only [spec_GoodEntry.j0] at H
   by_cases c9 : x13_1 = true
   · subst c9
     rw [if_pos rfl] at H
     obtain rfl := Option.some.inj H
     go_wp2
     go_ret
     exact ⟨z674d, zcb41⟩
   · replace c9 := Bool.eq_false_iff.mpr c9
     subst c9
     rw [if_neg (show ¬ (false = true) by decide)] at H
     have HC10 := aM H
     clear H
     obtain ⟨hcz11_0, hcz11_1, hcz11_2, hcz11_3, hcz11_4, hcz11_5, hcz11_6, hcz11_7, hcz11_8, hfz11_0, hfz11_1, hfz11_2, hfz11_3, hfz11_4, hfz11_5, hfz11_6, hfz11_7, hfz11_8⟩ := cellsZ9 BK101.out
     go_upto_if 16 with (fail)
     go_cut [16] (fun v16 wc => ∃ (kq : Nat) (x16_9 : Bool), v16 = .bool x16_9 ∧ Aside0 (spec_GoodEntry.j1 kq a0_2 x16_9 a0_0 a0_1 a0_2 a0_3 a0_4 a0_5 a0_6 l0_7 a0_8 = some r) ∧ Aside0 (kq ≤ kj1) ∧ Aside0 (wc.heap[gb101]? = some (.cells #[.string a0_0, .int .i64 a0_1, .int .i64 a0_2, .int .i64 a0_3, .int .i64 a0_4, .int .i64 a0_5, .int .i64 a0_6, (.slice A0_7 l0_7.length c0_7), .bool a0_8] 45 (0, 0))) ∧ Aside0 (Below w.heap.size w wc))
     case first =>
      have H := HC10.out
      clear HC10
      by_cases c12 : a0_2 = 1
      · rw [if_pos c12] at H
        have c12b0 : (a0_2 == 1) = true := beq_iff_eq.mpr c12
        have c12b1 : (a0_2 != 1) = false := bne_eq_false_iff_eq.mpr c12
        clear c12
        (first | rw [c12b0] | (simp only [i64_w, i32_w]; rw [c12b0]) | skip)
        have H' := aM H
        clear H
        go_wp2
        go_meet
        case rel => exact ⟨_, ((a0_2 == 1)), z4458, H', ⟨by have := HJ1.out; first | omega | exact Nat.le_refl _⟩, ⟨bkZ⟩, ⟨zcb41⟩⟩
      · rw [if_neg c12] at H
        have c12b0 : (a0_2 == 1) = false := beq_eq_false_iff_ne.mpr c12
        have c12b1 : (a0_2 != 1) = true := bne_iff_ne.mpr c12
        (first | rw [c12b0] | (simp only [i64_w, i32_w]; rw [c12b0]) | skip)
        have H' := aM H
        clear H
        go_wp2
        go_meet
        case rel => exact ⟨_, ((a0_2 == 3)), z4458, H', ⟨by have := HJ1.out; first | omega | exact Nat.le_refl _⟩, ⟨bkZ⟩, ⟨zcb41⟩⟩
     case rest =>
      clear HC10
      try clear c1
      try clear p2
      try clear c4
      try clear c5
      try clear c6
      try clear c9
      try clear c12
      try clear c12b0
      try clear c12b1
      try clear hcz11_0 hcz11_1 hcz11_2 hcz11_3 hcz11_4 hcz11_5 hcz11_6 hcz11_7 hcz11_8
      try clear hcz7_0 hcz7_1 hcz7_2 hcz7_3 hcz7_4 hcz7_5 hcz7_6 hcz7_7 hcz7_8
      try clear hcz8_0 hcz8_1 hcz8_2 hcz8_3 hcz8_4 hcz8_5 hcz8_6 hcz8_7 hcz8_8
      try clear hfz11_0 hfz11_1 hfz11_2 hfz11_3 hfz11_4 hfz11_5 hfz11_6 hfz11_7 hfz11_8
      try clear hfz7_0 hfz7_1 hfz7_2 hfz7_3 hfz7_4 hfz7_5 hfz7_6 hfz7_7 hfz7_8
      try clear hfz8_0 hfz8_1 hfz8_2 hfz8_3 hfz8_4 hfz8_5 hfz8_6 hfz8_7 hfz8_8
      try clear p2
      obtain ⟨kq, x16_9, rfl, HA, HJ9, BK101, HB⟩ := hcut
      cases kq with
      | zero => exact absurd HA.out (by simp [spec_GoodEntry.j1])
      | succ kj9 =>
       have H := HA.out
       clear HA
       simp only [spec_GoodEntry.j1] at H
       by_cases c13 : x16_9 = true
       · subst c13
         rw [if_pos rfl] at H
         replace H := Option.bind_eq_some_iff.mp H
         obtain ⟨t104, A140, H⟩ := H
         try dsimp only at H
         have A14 := aM A140
         clear A140
         obtain rfl := Option.some.inj H
         obtain ⟨hcz15_0, hcz15_1, hcz15_2, hcz15_3, hcz15_4, hcz15_5, hcz15_6, hcz15_7, hcz15_8, hfz15_0, hfz15_1, hfz15_2, hfz15_3, hfz15_4, hfz15_5, hfz15_6, hfz15_7, hfz15_8⟩ := cellsZ9 BK101.out
         go_wp2_with (first | ((with_reducible refine gate_callee (f := 76) rfl ?_); refine goesL_ (some 21) rfl rfl Try.func76 (by kernel_rfl) rfl #[.agg #[.int .i64 a0_3, .int .i64 a0_4, .int .i64 a0_5, .int .i64 a0_6, .slice A0_7 l0_7.length c0_7, .bool a0_8]] rfl zee81 ?_; (with_reducible refine (spec_GoodAgg.calls kj9 a0_3 a0_4 a0_5 a0_6 _ _ l0_7 a0_8 t104 _ ?side1 ?side2 A14.out).mono ?_); (case side1 => exact (cZ (Kd.C_below HR0_7.out HB.out))); (case side2 => exact HC0_7.out); rintro e w16 ⟨rfl, hb⟩; refine ⟨_, rfl, ?_⟩; have _ := bB gb101 hb; have _ := aM (below_step hbZ hb); clear BK101 HB; rename_i BK101 HB; (try clear hb)))
         go_ret
         exact ⟨z674d, zcb41⟩
       · replace c13 := Bool.eq_false_iff.mpr c13
         subst c13
         rw [if_neg (show ¬ (false = true) by decide)] at H
         by_cases c17 : a0_2 = 2
         · rw [if_pos c17] at H
           have c17b0 : (a0_2 == 2) = true := beq_iff_eq.mpr c17
           have c17b1 : (a0_2 != 2) = false := bne_eq_false_iff_eq.mpr c17
           clear c17
           replace H := Option.bind_eq_some_iff.mp H
           obtain ⟨t105, A180, H⟩ := H
           try dsimp only at H
           have A18 := aM A180
           clear A180
           obtain rfl := Option.some.inj H
           obtain ⟨hcz19_0, hcz19_1, hcz19_2, hcz19_3, hcz19_4, hcz19_5, hcz19_6, hcz19_7, hcz19_8, hfz19_0, hfz19_1, hfz19_2, hfz19_3, hfz19_4, hfz19_5, hfz19_6, hfz19_7, hfz19_8⟩ := cellsZ9 BK101.out
           go_wp2_with (first | ((with_reducible refine gate_callee (f := 77) rfl ?_); refine goesL_ (some 26) rfl rfl Try.func77 (by kernel_rfl) rfl #[.agg #[.int .i64 a0_3, .int .i64 a0_4, .int .i64 a0_5, .int .i64 a0_6, .slice A0_7 l0_7.length c0_7, .bool a0_8]] rfl zee81 ?_; (with_reducible refine (spec_l5Zero.calls a0_3 a0_4 a0_5 a0_6 _ _ l0_7 a0_8 t105 _ ?side1 ?side2 A18.out).mono ?_); (case side1 => exact (cZ (Kd.C_below HR0_7.out HB.out))); (case side2 => exact HC0_7.out); rintro e w20 ⟨rfl, hb⟩; refine ⟨_, rfl, ?_⟩; have _ := bB gb101 hb; have _ := aM (below_step hbZ hb); clear BK101 HB; rename_i BK101 HB; (try clear hb)))
           go_ret
           exact ⟨z674d, zcb41⟩
         · rw [if_neg c17] at H
           have c17b0 : (a0_2 == 2) = false := beq_eq_false_iff_ne.mpr c17
           have c17b1 : (a0_2 != 2) = true := bne_iff_ne.mpr c17
           obtain rfl := Option.some.inj H
           go_wp2
           go_ret
           exact ⟨z674d, zcb41⟩

end Go.Proofs.Ytdkokfnnebdppaa.P

-- written by a program of this session's (wip/pp)
namespace Go.Proofs.Ytdkokfnnebdppaa.P
open Go.RowKit Go.Proofs.YtdkokfnnebdppaaW.PrintWords Go.Proofs.YtdkokfnnebdppaaW.PrintLast Go.Proofs.YtdkokfnnebdppaaW.PrintMore
attribute [local go_sem] max2_int min2_int max_two min_two max_three min_three max_four min_four str_geq str_gtr str_leq   -- for this text's walks alone
set_option linter.unusedVariables false
set_option linter.unusedSimpArgs false

/-! ### spec_l5Before: function 65 -/
def spec_l5Before.f (a0_0 : ByteArray) (a0_1 : Int) (a0_2 : Int) (a0_3 : Int) (a0_4 : Int) (a0_5 : Int) (a0_6 : Int) (l0_7 : List Int) (a0_8 : Bool) (a1_0 : ByteArray) (a1_1 : Int) (a1_2 : Int) (a1_3 : Int) (a1_4 : Int) (a1_5 : Int) (a1_6 : Int) (l1_7 : List Int) (a1_8 : Bool) : Option (Bool) := if (Op.bytesLess a0_0.toList a1_0.toList) = true then (some true) else (if a0_0.toList = a1_0.toList then (some (decide (a0_1 > a1_1))) else (some false))
set_option maxHeartbeats 8000000 in
set_option maxRecDepth 100000 in
theorem spec_l5Before.calls (a0_0 : ByteArray) (a0_1 : Int) (a0_2 : Int) (a0_3 : Int) (a0_4 : Int) (a0_5 : Int) (a0_6 : Int) (A0_7 : Option Addr) (c0_7 : Nat) (l0_7 : List Int) (a0_8 : Bool) (a1_0 : ByteArray) (a1_1 : Int) (a1_2 : Int) (a1_3 : Int) (a1_4 : Int) (a1_5 : Int) (a1_6 : Int) (A1_7 : Option Addr) (c1_7 : Nat) (l1_7 : List Int) (a1_8 : Bool) (r : Bool) (w : World) (hr0_7 : Kd.C (Kd.int .i64) w A0_7 l0_7.length l0_7) (hc0_7 : l0_7.length ≤ c0_7) (hr1_7 : Kd.C (Kd.int .i64) w A1_7 l1_7.length l1_7) (hc1_7 : l1_7.length ≤ c1_7) (h : spec_l5Before.f a0_0 a0_1 a0_2 a0_3 a0_4 a0_5 a0_6 l0_7 a0_8 a1_0 a1_1 a1_2 a1_3 a1_4 a1_5 a1_6 l1_7 a1_8 = some r) :
 Calls Try.prog 65 #[.agg #[.string a0_0, .int .i64 a0_1, .int .i64 a0_2, .int .i64 a0_3, .int .i64 a0_4, .int .i64 a0_5, .int .i64 a0_6, .slice A0_7 l0_7.length c0_7, .bool a0_8], .agg #[.string a1_0, .int .i64 a1_1, .int .i64 a1_2, .int .i64 a1_3, .int .i64 a1_4, .int .i64 a1_5, .int .i64 a1_6, .slice A1_7 l1_7.length c1_7, .bool a1_8]] w fun e w' => e = .returned (.bool r) ∧ Below w.heap.size w w' := by
 have hu45 := Try.underlying45
 have HR0_7 := aM hr0_7
 have HC0_7 := aM hc0_7
 clear hr0_7 hc0_7
 have HR1_7 := aM hr1_7
 have HC1_7 := aM hc1_7
 clear hr1_7 hc1_7
 have HB := aM (Below.refl w.heap.size w)
 have H : (if (Op.bytesLess a0_0.toList a1_0.toList) = true then (some true) else (if a0_0.toList = a1_0.toList then (some (decide (a0_1 > a1_1))) else (some false))) = some r := h
 clear h
 by_cases c3 : (Op.bytesLess a0_0.toList a1_0.toList) = true
 · rw [if_pos c3] at H
   have c3b0 : (Op.bytesLess a0_0.toList a1_0.toList) = true := c3
   clear c3
   obtain rfl := Option.some.inj H
   go_enter Try.func65, Try.ntmps65
   go_wp2_with (first | ((with_reducible refine gate_dst (N := 2) rfl ?_); refine box_event ?hg (N := 2) ?hd (cs := #[.string a0_0, .int .i64 a0_1, .int .i64 a0_2, .int .i64 a0_3, .int .i64 a0_4, .int .i64 a0_5, .int .i64 a0_6, .slice A0_7 l0_7.length c0_7, .bool a0_8]) (t := 45) ?hr ?_; (case hd => rfl); (case hg => rfl); (case hr => first | (go_simp; done) | (go_simp; rfl)); intro gb101 hg w4 hbox hb; have _ := aM (below_step hbZ hb); have _ := aM hbox; have _ := szZ hg; have _ := szZ hg; clear HB; rename_i HB BK101 GW101 GE101; clear hb hbox hg) | ((with_reducible refine gate_dst (N := 3) rfl ?_); refine box_event ?hg (N := 3) ?hd (cs := #[.string a1_0, .int .i64 a1_1, .int .i64 a1_2, .int .i64 a1_3, .int .i64 a1_4, .int .i64 a1_5, .int .i64 a1_6, .slice A1_7 l1_7.length c1_7, .bool a1_8]) (t := 45) ?hr ?_; (case hd => rfl); (case hg => rfl); (case hr => first | (go_simp; done) | (go_simp; rfl)); intro gb102 hg w5 hbox hb; have _ := bB gb101 hb; have _ := aM (below_step hbZ hb); have _ := aM hbox; have _ := szZ hg; have _ := szZ hg; have ⟨_, _⟩ := nbB gb101 hg; clear BK101 HB; rename_i BK101 HB BK102 GW102 GE102 NB101_102 NB102_101; clear hb hbox hg; have hnb6 := NB101_102.out; have hnc6 := NB102_101.out; obtain ⟨hcz7_0, hcz7_1, hcz7_2, hcz7_3, hcz7_4, hcz7_5, hcz7_6, hcz7_7, hcz7_8, hfz7_0, hfz7_1, hfz7_2, hfz7_3, hfz7_4, hfz7_5, hfz7_6, hfz7_7, hfz7_8⟩ := cellsZ9 BK101.out; obtain ⟨hcz8_0, hcz8_1, hcz8_2, hcz8_3, hcz8_4, hcz8_5, hcz8_6, hcz8_7, hcz8_8, hfz8_0, hfz8_1, hfz8_2, hfz8_3, hfz8_4, hfz8_5, hfz8_6, hfz8_7, hfz8_8⟩ := cellsZ9 BK102.out))
   go_ret
   exact ⟨z674d, zcb41⟩
 · rw [if_neg c3] at H
   have c3b0 : (Op.bytesLess a0_0.toList a1_0.toList) = false := by simpa using c3
   clear c3
   by_cases c9 : a0_0.toList = a1_0.toList
   · rw [if_pos c9] at H
     have c9b0 : (a0_0.toList == a1_0.toList) = true := beq_iff_eq.mpr c9
     have c9b1 : (a0_0.toList != a1_0.toList) = false := bne_eq_false_iff_eq.mpr c9
     clear c9
     obtain rfl := Option.some.inj H
     go_enter Try.func65, Try.ntmps65
     go_wp2_with (first | ((with_reducible refine gate_dst (N := 2) rfl ?_); refine box_event ?hg (N := 2) ?hd (cs := #[.string a0_0, .int .i64 a0_1, .int .i64 a0_2, .int .i64 a0_3, .int .i64 a0_4, .int .i64 a0_5, .int .i64 a0_6, .slice A0_7 l0_7.length c0_7, .bool a0_8]) (t := 45) ?hr ?_; (case hd => rfl); (case hg => rfl); (case hr => first | (go_simp; done) | (go_simp; rfl)); intro gb101 hg w10 hbox hb; have _ := aM (below_step hbZ hb); have _ := aM hbox; have _ := szZ hg; have _ := szZ hg; clear HB; rename_i HB BK101 GW101 GE101; clear hb hbox hg) | ((with_reducible refine gate_dst (N := 3) rfl ?_); refine box_event ?hg (N := 3) ?hd (cs := #[.string a1_0, .int .i64 a1_1, .int .i64 a1_2, .int .i64 a1_3, .int .i64 a1_4, .int .i64 a1_5, .int .i64 a1_6, .slice A1_7 l1_7.length c1_7, .bool a1_8]) (t := 45) ?hr ?_; (case hd => rfl); (case hg => rfl); (case hr => first | (go_simp; done) | (go_simp; rfl)); intro gb102 hg w11 hbox hb; have _ := bB gb101 hb; have _ := aM (below_step hbZ hb); have _ := aM hbox; have _ := szZ hg; have _ := szZ hg; have ⟨_, _⟩ := nbB gb101 hg; clear BK101 HB; rename_i BK101 HB BK102 GW102 GE102 NB101_102 NB102_101; clear hb hbox hg; have hnb12 := NB101_102.out; have hnc12 := NB102_101.out; obtain ⟨hcz13_0, hcz13_1, hcz13_2, hcz13_3, hcz13_4, hcz13_5, hcz13_6, hcz13_7, hcz13_8, hfz13_0, hfz13_1, hfz13_2, hfz13_3, hfz13_4, hfz13_5, hfz13_6, hfz13_7, hfz13_8⟩ := cellsZ9 BK101.out; obtain ⟨hcz14_0, hcz14_1, hcz14_2, hcz14_3, hcz14_4, hcz14_5, hcz14_6, hcz14_7, hcz14_8, hfz14_0, hfz14_1, hfz14_2, hfz14_3, hfz14_4, hfz14_5, hfz14_6, hfz14_7, hfz14_8⟩ := cellsZ9 BK102.out))
     go_ret
     exact ⟨z674d, zcb41⟩
   · rw [if_neg c9] at H
     have c9b0 : (a0_0.toList == a1_0.toList) = false := beq_eq_false_iff_ne.mpr c9
     have c9b1 : (a0_0.toList != a1_0.toList) = true := bne_iff_ne.mpr c9
     obtain rfl := Option.some.inj H
     go_enter Try.func65, Try.ntmps65
     go_wp2_with (first | ((with_reducible refine gate_dst (N := 2) rfl ?_); refine box_event ?hg (N := 2) ?hd (cs := #[.string a0_0, .int .i64 a0_1, .int .i64 a0_2, .int .i64 a0_3, .int .i64 a0_4, .int .i64 a0_5, .int .i64 a0_6, .slice A0_7 l0_7.length c0_7, .bool a0_8]) (t := 45) ?hr ?_; (case hd => rfl); (case hg => rfl); (case hr => first | (go_simp; done) | (go_simp; rfl)); intro gb101 hg w15 hbox hb; have _ := aM (below_step hbZ hb); have _ := aM hbox; have _ := szZ hg; have _ := szZ hg; clear HB; rename_i HB BK101 GW101 GE101; clear hb hbox hg) | ((with_reducible refine gate_dst (N := 3) rfl ?_); refine box_event ?hg (N := 3) ?hd (cs := #[.string a1_0, .int .i64 a1_1, .int .i64 a1_2, .int .i64 a1_3, .int .i64 a1_4, .int .i64 a1_5, .int .i64 a1_6, .slice A1_7 l1_7.length c1_7, .bool a1_8]) (t := 45) ?hr ?_; (case hd => rfl); (case hg => rfl); (case hr => first | (go_simp; done) | (go_simp; rfl)); intro gb102 hg w16 hbox hb; have _ := bB gb101 hb; have _ := aM (below_step hbZ hb); have _ := aM hbox; have _ := szZ hg; have _ := szZ hg; have ⟨_, _⟩ := nbB gb101 hg; clear BK101 HB; rename_i BK101 HB BK102 GW102 GE102 NB101_102 NB102_101; clear hb hbox hg; have hnb17 := NB101_102.out; have hnc17 := NB102_101.out; obtain ⟨hcz18_0, hcz18_1, hcz18_2, hcz18_3, hcz18_4, hcz18_5, hcz18_6, hcz18_7, hcz18_8, hfz18_0, hfz18_1, hfz18_2, hfz18_3, hfz18_4, hfz18_5, hfz18_6, hfz18_7, hfz18_8⟩ := cellsZ9 BK101.out; obtain ⟨hcz19_0, hcz19_1, hcz19_2, hcz19_3, hcz19_4, hcz19_5, hcz19_6, hcz19_7, hcz19_8, hfz19_0, hfz19_1, hfz19_2, hfz19_3, hfz19_4, hfz19_5, hfz19_6, hfz19_7, hfz19_8⟩ := cellsZ9 BK102.out))
     go_ret
     exact ⟨z674d, zcb41⟩

end Go.Proofs.Ytdkokfnnebdppaa.P

-- written by a program of this session's (wip/pp)
namespace Go.Proofs.Ytdkokfnnebdppaa.P
open Go.RowKit Go.Proofs.YtdkokfnnebdppaaW.PrintWords Go.Proofs.YtdkokfnnebdppaaW.PrintLast Go.Proofs.YtdkokfnnebdppaaW.PrintMore
attribute [local go_sem] max2_int min2_int max_two min_two max_three min_three max_four min_four str_geq str_gtr str_leq   -- for this text's walks alone
set_option linter.unusedVariables false
set_option linter.unusedSimpArgs false

/-! ### spec_GoodEntries: function 33 -/
mutual
def spec_GoodEntries.l0 : Nat → List (S45) → List Int → List (S45) → Int → Int → Option (Bool)
 | 0, _, _, _, _, _ => none
 | k + 1, x0, x3, x10, x11, x12 => if x12 < x11 then (if 0 ≤ x12 then (if x12 < (x10.length : Int) then ((spec_GoodEntry.f k ((rd_T45 x10 x12).f0) ((rd_T45 x10 x12).f1) ((rd_T45 x10 x12).f2) ((rd_T45 x10 x12).f3.f0) ((rd_T45 x10 x12).f3.f1) ((rd_T45 x10 x12).f3.f2) ((rd_T45 x10 x12).f3.f3) ((rd_T45 x10 x12).f3.f4) ((rd_T45 x10 x12).f3.f5)).bind fun t103 => (if t103 = true then (if x12 > 0 then (if 0 ≤ (wrap64 (x12 - 1)) then (if (wrap64 (x12 - 1)) < (x0.length : Int) then ((spec_l5Before.f ((rd_T45 x0 (wrap64 (x12 - 1))).f0) ((rd_T45 x0 (wrap64 (x12 - 1))).f1) ((rd_T45 x0 (wrap64 (x12 - 1))).f2) ((rd_T45 x0 (wrap64 (x12 - 1))).f3.f0) ((rd_T45 x0 (wrap64 (x12 - 1))).f3.f1) ((rd_T45 x0 (wrap64 (x12 - 1))).f3.f2) ((rd_T45 x0 (wrap64 (x12 - 1))).f3.f3) ((rd_T45 x0 (wrap64 (x12 - 1))).f3.f4) ((rd_T45 x0 (wrap64 (x12 - 1))).f3.f5) ((rd_T45 x10 x12).f0) ((rd_T45 x10 x12).f1) ((rd_T45 x10 x12).f2) ((rd_T45 x10 x12).f3.f0) ((rd_T45 x10 x12).f3.f1) ((rd_T45 x10 x12).f3.f2) ((rd_T45 x10 x12).f3.f3) ((rd_T45 x10 x12).f3.f4) ((rd_T45 x10 x12).f3.f5)).bind fun t105 => (if t105 = true then (if x3.length < 17592186044416 then (spec_GoodEntries.l0 k x0 (x3 ++ [(rd_T45 x10 x12).f1]) x10 x11 (wrap64 (x12 + 1))) else (none)) else (some false))) else (none)) else (none)) else (if x3.length < 17592186044416 then (spec_GoodEntries.l0 k x0 (x3 ++ [(rd_T45 x10 x12).f1]) x10 x11 (wrap64 (x12 + 1))) else (none))) else (some false))) else (none)) else (none)) else (spec_GoodEntries.l1 k x3 x3 (x3.length : Int) 0)
def spec_GoodEntries.l1 : Nat → List Int → List Int → Int → Int → Option (Bool)
 | 0, _, _, _, _ => none
 | k + 1, x3, x40, x41, x42 => if x42 < x41 then (if 0 ≤ x42 then (if x42 < (x40.length : Int) then (if x42 ≤ (x3.length : Int) then ((some (x3.take (x42 : Int).toNat : List Int)).bind fun y113 => (spec_GoodEntries.l2 k x3 (rd x40 x42) x40 x41 x42 y113 (y113.length : Int) 0)) else (none)) else (none)) else (none)) else (some true)
def spec_GoodEntries.l2 : Nat → List Int → Int → List Int → Int → Int → List Int → Int → Int → Option (Bool)
 | 0, _, _, _, _, _, _, _, _ => none
 | k + 1, x3, x7, x40, x41, x42, x49, x50, x51 => if x51 < x50 then (if 0 ≤ x51 then (if x51 < (x49.length : Int) then (if (rd x49 x51) = x7 then (some false) else (spec_GoodEntries.l2 k x3 x7 x40 x41 x42 x49 x50 (wrap64 (x51 + 1)))) else (none)) else (none)) else (spec_GoodEntries.l1 k x3 x40 x41 (wrap64 (x42 + 1)))
end
def spec_GoodEntries.f (k : Nat) (l0 : List (S45)) : Option (Bool) := spec_GoodEntries.l0 k l0 ([] : List Int) l0 (l0.length : Int) 0
theorem spec_GoodEntries.mono_l : ∀ k, (∀ y0 y1 y2 y3 y4, LeO (spec_GoodEntries.l0 k y0 y1 y2 y3 y4) (spec_GoodEntries.l0 (k + 1) y0 y1 y2 y3 y4)) ∧ (∀ y0 y1 y2 y3, LeO (spec_GoodEntries.l1 k y0 y1 y2 y3) (spec_GoodEntries.l1 (k + 1) y0 y1 y2 y3)) ∧ (∀ y0 y1 y2 y3 y4 y5 y6 y7, LeO (spec_GoodEntries.l2 k y0 y1 y2 y3 y4 y5 y6 y7) (spec_GoodEntries.l2 (k + 1) y0 y1 y2 y3 y4 y5 y6 y7))
 | 0 => ⟨fun _ _ _ _ _ r h => by simp [spec_GoodEntries.l0] at h, fun _ _ _ _ r h => by simp [spec_GoodEntries.l1] at h, fun _ _ _ _ _ _ _ _ r h => by simp [spec_GoodEntries.l2] at h⟩
 | k + 1 => by
  obtain ⟨ih0, ih1, ih2⟩ := spec_GoodEntries.mono_l k
  refine ⟨?_, ?_, ?_⟩
  · intro y0 y1 y2 y3 y4
    unfold spec_GoodEntries.l0
    repeat' first
     | (with_reducible first | exact ih0 .. | exact ih1 .. | exact ih2 .. | exact spec_GoodEntry.mono .. | exact LeO.refl _ | exact LeO.none _ | refine LeO.ite ?_ ?_ | refine LeO.bind ?_ (fun _ => ?_))
     | exact LeO.none _
     | refine LeO.ite ?_ ?_
     | refine LeO.bind ?_ (fun _ => ?_)
  · intro y0 y1 y2 y3
    unfold spec_GoodEntries.l1
    repeat' first
     | (with_reducible first | exact ih0 .. | exact ih1 .. | exact ih2 .. | exact spec_GoodEntry.mono .. | exact LeO.refl _ | exact LeO.none _ | refine LeO.ite ?_ ?_ | refine LeO.bind ?_ (fun _ => ?_))
     | exact LeO.none _
     | refine LeO.ite ?_ ?_
     | refine LeO.bind ?_ (fun _ => ?_)
  · intro y0 y1 y2 y3 y4 y5 y6 y7
    unfold spec_GoodEntries.l2
    repeat' first
     | (with_reducible first | exact ih0 .. | exact ih1 .. | exact ih2 .. | exact spec_GoodEntry.mono .. | exact LeO.refl _ | exact LeO.none _ | refine LeO.ite ?_ ?_ | refine LeO.bind ?_ (fun _ => ?_))
     | exact LeO.none _
     | refine LeO.ite ?_ ?_
     | refine LeO.bind ?_ (fun _ => ?_)
theorem spec_GoodEntries.mono : ∀ a0 k, LeO (spec_GoodEntries.f k a0) (spec_GoodEntries.f (k + 1) a0) := by
 intro a0 k
 obtain ⟨ih0, ih1, ih2⟩ := spec_GoodEntries.mono_l k
 unfold spec_GoodEntries.f
 repeat' first
  | (with_reducible first | exact ih0 .. | exact ih1 .. | exact ih2 .. | exact spec_GoodEntry.mono .. | exact LeO.refl _ | exact LeO.none _ | refine LeO.ite ?_ ?_ | refine LeO.bind ?_ (fun _ => ?_))
  | exact LeO.none _
  | refine LeO.ite ?_ ?_
  | refine LeO.bind ?_ (fun _ => ?_)
def spec_GoodEntries.T5 : Bool × List (List Nat × List Nat) := (true, [([], []), ([0], [0]), ([1], [1]), ([2, 1], [2]), ([3], [3]), ([4, 3], [3, 4]), ([5, 3, 3], [3, 5]), ([6], [6]), ([6], [6]), ([8, 6], [6, 8]), ([7, 9, 6], [6, 7, 9]), ([10, 6], [6, 10]), ([6], [6]), ([11, 12, 6, 6], [6, 11, 12]), ([13, 6], [6, 13]), ([6, 14, 3], [3, 6, 14]), ([3, 15], [3, 15])])
def spec_GoodEntries.B5 : List Nat := [0, 1, 3, 7, 15, 31, 63, 127, 127, 383, 1023, 2047, 127, 8191, 16383, 32767, 65535]
theorem spec_GoodEntries.tab5 : rtab .any (opsOf Try.f33 5) = spec_GoodEntries.T5 := by kernel_rfl
theorem spec_GoodEntries.bits5 : waitsOk spec_GoodEntries.T5.2 spec_GoodEntries.B5 = true := by kernel_rfl
set_option maxHeartbeats 8000000 in
set_option maxRecDepth 100000 in
theorem spec_GoodEntries.calls (k : Nat) (A0 : Option Addr) (c0 : Nat) (l0 : List (S45)) (r : Bool) (w : World) (hr0 : Kd.C k45 w A0 l0.length l0) (hc0 : l0.length ≤ c0) (h : spec_GoodEntries.f k l0 = some r) :
 Calls Try.prog 33 #[.slice A0 l0.length c0] w fun e w' => e = .returned (.bool r) ∧ Below w.heap.size w w' := by
 have hu45 := Try.underlying45
 have HR0 := aM hr0
 have HC0 := aM hc0
 clear hr0 hc0
 have HB := aM (Below.refl w.heap.size w)
 have H : (spec_GoodEntries.l0 k l0 ([] : List Int) l0 (l0.length : Int) 0) = some r := h
 clear h
 have H' := aM H
 clear H
 go_enter Try.func33, Try.ntmps33
 go_wp2
 go_loopg [3, 12] k (fun kq v3 v12 w' => ∃ (x3_1 : List Int) (x12_1 : Int), v12 = .int .i64 x12_1 ∧ Aside0 (spec_GoodEntries.l0 kq l0 x3_1 l0 (l0.length : Int) x12_1 = some r) ∧ Aside0 (kq ≤ k) ∧ Aside0 (Kd.R (Kd.int .i64) 3 w' w.heap.size (fun _ => True) v3 x3_1) ∧ Aside0 (Below w.heap.size w w'))
 case atStart => exact ⟨(([] : List Int)), (0), z4458, H', ⟨Nat.le_refl _⟩, ⟨z02fa⟩, ⟨z5acd⟩⟩
 case round =>
  clear H'
  obtain ⟨x3_1, x12_1, rfl, HA, HK1, HO_3, HB⟩ := hrel
  cases gk with
  | zero => exact absurd HA.out (by simp [spec_GoodEntries.l0])
  | succ k1 =>
   have H := HA.out
   clear HA
   simp only [spec_GoodEntries.l0] at H
   by_cases c2 : x12_1 < (l0.length : Int)
   · rw [if_pos c2] at H
     have c2b0 : decide (x12_1 < (l0.length : Int)) = true := decide_eq_true c2
     clear c2
     replace H := ifS H; obtain ⟨c3, H⟩ := H
     have c3b0 : decide (0 ≤ x12_1) = true := decide_eq_true c3
     clear c3
     replace H := ifS H; obtain ⟨c4, H⟩ := H
     have c4b0 : decide (x12_1 < (l0.length : Int)) = true := decide_eq_true c4
     clear c4
     replace H := Option.bind_eq_some_iff.mp H
     obtain ⟨t103, A50, H⟩ := H
     try dsimp only at H
     have A5 := aM A50
     clear A50
     by_cases c6 : t103 = true
     · subst c6
       rw [if_pos rfl] at H
       by_cases c7 : x12_1 > 0
       · rw [if_pos c7] at H
         have c7b0 : decide (0 < x12_1) = true := decide_eq_true c7
         clear c7
         obtain ⟨ji8, hji8⟩ : ∃ j_ : Int, (wrap64 (x12_1 - 1)) = j_ := ⟨_, rfl⟩
         replace H : (if 0 ≤ (ji8) then (if (ji8) < (l0.length : Int) then ((spec_l5Before.f ((rd_T45 l0 (ji8)).f0) ((rd_T45 l0 (ji8)).f1) ((rd_T45 l0 (ji8)).f2) ((rd_T45 l0 (ji8)).f3.f0) ((rd_T45 l0 (ji8)).f3.f1) ((rd_T45 l0 (ji8)).f3.f2) ((rd_T45 l0 (ji8)).f3.f3) ((rd_T45 l0 (ji8)).f3.f4) ((rd_T45 l0 (ji8)).f3.f5) ((rd_T45 l0 x12_1).f0) ((rd_T45 l0 x12_1).f1) ((rd_T45 l0 x12_1).f2) ((rd_T45 l0 x12_1).f3.f0) ((rd_T45 l0 x12_1).f3.f1) ((rd_T45 l0 x12_1).f3.f2) ((rd_T45 l0 x12_1).f3.f3) ((rd_T45 l0 x12_1).f3.f4) ((rd_T45 l0 x12_1).f3.f5)).bind fun t105 => (if t105 = true then (if x3_1.length < 17592186044416 then (spec_GoodEntries.l0 k1 l0 (x3_1 ++ [(rd_T45 l0 x12_1).f1]) l0 (l0.length : Int) (wrap64 (x12_1 + 1))) else (none)) else (some false))) else (none)) else (none)) = some r := by first | (rw [hji8] at H; exact H) | (simp only [hji8] at H ⊢; exact H)
         (try rw [hji8] at A5)
         have hji8w : (IntKind.i64.wrap (x12_1 - 1)) = ji8 := (i64_w _).trans hji8
         replace H := ifS H; obtain ⟨c9, H⟩ := H
         have c9b0 : decide (0 ≤ (ji8)) = true := decide_eq_true c9
         clear c9
         replace H := ifS H; obtain ⟨c10, H⟩ := H
         have c10b0 : decide ((ji8) < (l0.length : Int)) = true := decide_eq_true c10
         clear c10
         replace H := Option.bind_eq_some_iff.mp H
         obtain ⟨t105, A110, H⟩ := H
         try dsimp only at H
         have A11 := aM A110
         clear A110
         by_cases c12 : t105 = true
         · subst c12
           rw [if_pos rfl] at H
           replace H := ifS H; obtain ⟨c13, H⟩ := H
           have LMc13 := aM c13
           clear c13
           obtain ⟨y106, hy106⟩ : ∃ y_ : List Int, y_ = (x3_1 ++ [(rd_T45 l0 x12_1).f1]) := ⟨_, rfl⟩
           first | (replace H := bindS H; rw [← hy106] at H; try dsimp only at H) | rw [← hy106] at H
           have Ny106 := aM hy106
           clear hy106
           have H' := aM H
           clear H
           have p101 : 0 ≤ (x12_1 : Int) := of_decide_eq_true z1200
           have q101 : x12_1 < (l0.length : Int) := of_decide_eq_true z1200
           obtain ⟨ad101, A101_7, c101_7, e101, hx101_0, hx101_1, hx101_2, hx101_3, hx101_4, hx101_5, hx101_6, hx101_7, hx101_8, hl101_7, hi101_7⟩ := at_T45 HR0.out x12_1 p101 q101
           cases e101
           have TW101_7 := aM hx101_7
           try replace hx101_0 := (HB.out.cell (World.block_lt_of_cell? w _ hx101_0)).trans hx101_0
           replace hx101_1 := (HB.out.cell (World.block_lt_of_cell? w _ hx101_1)).trans hx101_1
           replace hx101_2 := (HB.out.cell (World.block_lt_of_cell? w _ hx101_2)).trans hx101_2
           replace hx101_3 := (HB.out.cell (World.block_lt_of_cell? w _ hx101_3)).trans hx101_3
           replace hx101_4 := (HB.out.cell (World.block_lt_of_cell? w _ hx101_4)).trans hx101_4
           replace hx101_5 := (HB.out.cell (World.block_lt_of_cell? w _ hx101_5)).trans hx101_5
           replace hx101_6 := (HB.out.cell (World.block_lt_of_cell? w _ hx101_6)).trans hx101_6
           replace hx101_7 := (HB.out.cell (World.block_lt_of_cell? w _ hx101_7)).trans hx101_7
           replace hx101_8 := (HB.out.cell (World.block_lt_of_cell? w _ hx101_8)).trans hx101_8
           have HR101_7 := aM hi101_7
           have HC101_7 := aM hl101_7
           clear hi101_7 hl101_7
           replace p101 := eq_true p101
           replace q101 := eq_true q101
           try go_wp2_with (first | ((with_reducible refine gate_dst (N := 5) rfl ?_); refine box_event ?hg (N := 5) ?hd (cs := #[.string (⟨#[]⟩ : ByteArray), .int .i64 0, .int .i64 0, .int .i64 0, .int .i64 0, .int .i64 0, .int .i64 0, .slice none 0 0, .bool false]) (t := 45) ?hr ?_; (case hd => rfl); (case hg => rfl); (case hr => first | (go_simp; done) | (go_simp; rfl)); intro gb102 hg w14 hbox hb; have _ := aM (Kd.R_below (rZ HO_3.out) hb); have _ := aM (below_step hbZ hb); have _ := aM hbox; have _ := szZ hg; have _ := szZ hg; clear HO_3 HB; rename_i HO_3 HB BK102 GW102 GE102; clear hb hbox hg; obtain ⟨hcz15_0, hcz15_1, hcz15_2, hcz15_3, hcz15_4, hcz15_5, hcz15_6, hcz15_7, hcz15_8, hfz15_0, hfz15_1, hfz15_2, hfz15_3, hfz15_4, hfz15_5, hfz15_6, hfz15_7, hfz15_8⟩ := cellsZ9 BK102.out))
           have n0_ : Aside0 (Kd.R (Kd.int .i64) 3 (((((((((w14.setCell ⟨gb102, 0, none⟩ (.string ((rd_T45 l0 x12_1).f0))).setCell ⟨gb102, 1, none⟩ (.int .i64 ((rd_T45 l0 x12_1).f1))).setCell ⟨gb102, 2, none⟩ (.int .i64 ((rd_T45 l0 x12_1).f2))).setCell ⟨gb102, 3, none⟩ (.int .i64 ((rd_T45 l0 x12_1).f3.f0))).setCell ⟨gb102, 4, none⟩ (.int .i64 ((rd_T45 l0 x12_1).f3.f1))).setCell ⟨gb102, 5, none⟩ (.int .i64 ((rd_T45 l0 x12_1).f3.f2))).setCell ⟨gb102, 6, none⟩ (.int .i64 ((rd_T45 l0 x12_1).f3.f3))).setCell ⟨gb102, 7, none⟩ (.slice A101_7 ((rd_T45 l0 x12_1).f3.f4).length c101_7)).setCell ⟨gb102, 8, none⟩ (.bool ((rd_T45 l0 x12_1).f3.f5))) w.heap.size (fun _ => True) u3 x3_1) := ⟨by (with_reducible repeat (first | apply Kd.R_alloc | apply Kd.R_drewN | apply Kd.R_drew)); exact Kd.R_mono (Kd.R_far (p := ⟨gb102, 8, none⟩) (Kd.R_far (p := ⟨gb102, 7, none⟩) (Kd.R_far (p := ⟨gb102, 6, none⟩) (Kd.R_far (p := ⟨gb102, 5, none⟩) (Kd.R_far (p := ⟨gb102, 4, none⟩) (Kd.R_far (p := ⟨gb102, 3, none⟩) (Kd.R_far (p := ⟨gb102, 2, none⟩) (Kd.R_far (p := ⟨gb102, 1, none⟩) (Kd.R_far (p := ⟨gb102, 0, none⟩) (Kd.R_types HO_3.out BK102.out (by decide)) (fun _ hk => hk.2) (.string ((rd_T45 l0 x12_1).f0))) (fun _ hk => hk.2) (.int .i64 ((rd_T45 l0 x12_1).f1))) (fun _ hk => hk.2) (.int .i64 ((rd_T45 l0 x12_1).f2))) (fun _ hk => hk.2) (.int .i64 ((rd_T45 l0 x12_1).f3.f0))) (fun _ hk => hk.2) (.int .i64 ((rd_T45 l0 x12_1).f3.f1))) (fun _ hk => hk.2) (.int .i64 ((rd_T45 l0 x12_1).f3.f2))) (fun _ hk => hk.2) (.int .i64 ((rd_T45 l0 x12_1).f3.f3))) (fun _ hk => hk.2) (.slice A101_7 ((rd_T45 l0 x12_1).f3.f4).length c101_7)) (fun _ hk => hk.2) (.bool ((rd_T45 l0 x12_1).f3.f5))) (fun _ hk => trivial)⟩
           have n1_ : Aside0 ((((((((((w14.setCell ⟨gb102, 0, none⟩ (.string ((rd_T45 l0 x12_1).f0))).setCell ⟨gb102, 1, none⟩ (.int .i64 ((rd_T45 l0 x12_1).f1))).setCell ⟨gb102, 2, none⟩ (.int .i64 ((rd_T45 l0 x12_1).f2))).setCell ⟨gb102, 3, none⟩ (.int .i64 ((rd_T45 l0 x12_1).f3.f0))).setCell ⟨gb102, 4, none⟩ (.int .i64 ((rd_T45 l0 x12_1).f3.f1))).setCell ⟨gb102, 5, none⟩ (.int .i64 ((rd_T45 l0 x12_1).f3.f2))).setCell ⟨gb102, 6, none⟩ (.int .i64 ((rd_T45 l0 x12_1).f3.f3))).setCell ⟨gb102, 7, none⟩ (.slice A101_7 ((rd_T45 l0 x12_1).f3.f4).length c101_7)).setCell ⟨gb102, 8, none⟩ (.bool ((rd_T45 l0 x12_1).f3.f5))).heap[gb102]? = some (.cells #[.string ((rd_T45 l0 x12_1).f0), .int .i64 ((rd_T45 l0 x12_1).f1), .int .i64 ((rd_T45 l0 x12_1).f2), .int .i64 ((rd_T45 l0 x12_1).f3.f0), .int .i64 ((rd_T45 l0 x12_1).f3.f1), .int .i64 ((rd_T45 l0 x12_1).f3.f2), .int .i64 ((rd_T45 l0 x12_1).f3.f3), .slice A101_7 ((rd_T45 l0 x12_1).f3.f4).length c101_7, .bool ((rd_T45 l0 x12_1).f3.f5)] 45 (0, 0))) := ⟨bkZ⟩
           have n2_ : Aside0 (Below w.heap.size w (((((((((w14.setCell ⟨gb102, 0, none⟩ (.string ((rd_T45 l0 x12_1).f0))).setCell ⟨gb102, 1, none⟩ (.int .i64 ((rd_T45 l0 x12_1).f1))).setCell ⟨gb102, 2, none⟩ (.int .i64 ((rd_T45 l0 x12_1).f2))).setCell ⟨gb102, 3, none⟩ (.int .i64 ((rd_T45 l0 x12_1).f3.f0))).setCell ⟨gb102, 4, none⟩ (.int .i64 ((rd_T45 l0 x12_1).f3.f1))).setCell ⟨gb102, 5, none⟩ (.int .i64 ((rd_T45 l0 x12_1).f3.f2))).setCell ⟨gb102, 6, none⟩ (.int .i64 ((rd_T45 l0 x12_1).f3.f3))).setCell ⟨gb102, 7, none⟩ (.slice A101_7 ((rd_T45 l0 x12_1).f3.f4).length c101_7)).setCell ⟨gb102, 8, none⟩ (.bool ((rd_T45 l0 x12_1).f3.f5)))) := ⟨zcb41⟩
           (try clear HO_3)
           (try clear BK102)
           (try clear HB)
           generalize (((((((((w14.setCell ⟨gb102, 0, none⟩ (.string ((rd_T45 l0 x12_1).f0))).setCell ⟨gb102, 1, none⟩ (.int .i64 ((rd_T45 l0 x12_1).f1))).setCell ⟨gb102, 2, none⟩ (.int .i64 ((rd_T45 l0 x12_1).f2))).setCell ⟨gb102, 3, none⟩ (.int .i64 ((rd_T45 l0 x12_1).f3.f0))).setCell ⟨gb102, 4, none⟩ (.int .i64 ((rd_T45 l0 x12_1).f3.f1))).setCell ⟨gb102, 5, none⟩ (.int .i64 ((rd_T45 l0 x12_1).f3.f2))).setCell ⟨gb102, 6, none⟩ (.int .i64 ((rd_T45 l0 x12_1).f3.f3))).setCell ⟨gb102, 7, none⟩ (.slice A101_7 ((rd_T45 l0 x12_1).f3.f4).length c101_7)).setCell ⟨gb102, 8, none⟩ (.bool ((rd_T45 l0 x12_1).f3.f5))) = w16 at n0_ n1_ n2_ ⊢
           have HO_3 := n0_
           have BK102 := n1_
           have HB := n2_
           clear n0_ n1_ n2_
           have _ := aM (Kd.R_drew HO_3.out)
           have _ := aM (blk_drew BK102.out)
           have _ := aM (below_drew1 HB.out)
           clear HO_3
           clear BK102
           clear HB
           rename_i HO_3 BK102 HB
           have p104 : 0 ≤ ((ji8) : Int) := of_decide_eq_true z1200
           have q104 : (ji8) < (l0.length : Int) := of_decide_eq_true z1200
           obtain ⟨ad104, A104_7, c104_7, e104, hx104_0, hx104_1, hx104_2, hx104_3, hx104_4, hx104_5, hx104_6, hx104_7, hx104_8, hl104_7, hi104_7⟩ := at_T45 HR0.out (ji8) p104 q104
           have hw104_8 := hx104_8
           have hw104_7 := hx104_7
           have hw104_6 := hx104_6
           have hw104_5 := hx104_5
           have hw104_4 := hx104_4
           have hw104_3 := hx104_3
           have hw104_2 := hx104_2
           have hw104_1 := hx104_1
           have hw104_0 := hx104_0
           obtain rfl : ad101 = ad104 := (by injection e104)
           have TW104_7 := aM hx104_7
           try replace hx104_0 := (HB.out.cell (World.block_lt_of_cell? w _ hx104_0)).trans hx104_0
           replace hx104_1 := (HB.out.cell (World.block_lt_of_cell? w _ hx104_1)).trans hx104_1
           replace hx104_2 := (HB.out.cell (World.block_lt_of_cell? w _ hx104_2)).trans hx104_2
           replace hx104_3 := (HB.out.cell (World.block_lt_of_cell? w _ hx104_3)).trans hx104_3
           replace hx104_4 := (HB.out.cell (World.block_lt_of_cell? w _ hx104_4)).trans hx104_4
           replace hx104_5 := (HB.out.cell (World.block_lt_of_cell? w _ hx104_5)).trans hx104_5
           replace hx104_6 := (HB.out.cell (World.block_lt_of_cell? w _ hx104_6)).trans hx104_6
           replace hx104_7 := (HB.out.cell (World.block_lt_of_cell? w _ hx104_7)).trans hx104_7
           replace hx104_8 := (HB.out.cell (World.block_lt_of_cell? w _ hx104_8)).trans hx104_8
           have HR104_7 := aM hi104_7
           have HC104_7 := aM hl104_7
           clear hi104_7 hl104_7
           replace p104 := eq_true p104
           replace q104 := eq_true q104
           refine sA 17 spec_GoodEntries.tab5 spec_GoodEntries.bits5 (fun w' => w'.cell? ⟨gb102, 0, none⟩ = some (.string ((rd_T45 l0 x12_1).f0)) ∧ w'.cell? ⟨gb102, 1, none⟩ = some (.int .i64 ((rd_T45 l0 x12_1).f1)) ∧ w'.cell? ⟨gb102, 2, none⟩ = some (.int .i64 ((rd_T45 l0 x12_1).f2)) ∧ w'.cell? ⟨gb102, 3, none⟩ = some (.int .i64 ((rd_T45 l0 x12_1).f3.f0)) ∧ w'.cell? ⟨gb102, 4, none⟩ = some (.int .i64 ((rd_T45 l0 x12_1).f3.f1)) ∧ w'.cell? ⟨gb102, 5, none⟩ = some (.int .i64 ((rd_T45 l0 x12_1).f3.f2)) ∧ w'.cell? ⟨gb102, 6, none⟩ = some (.int .i64 ((rd_T45 l0 x12_1).f3.f3)) ∧ w'.cell? ⟨gb102, 7, none⟩ = some (.slice A101_7 ((rd_T45 l0 x12_1).f3.f4).length c101_7) ∧ w'.cell? ⟨gb102, 8, none⟩ = some (.bool ((rd_T45 l0 x12_1).f3.f5)) ∧ w'.cell? (ad101.add (((ji8)).toNat * 9)) = some (.string ((rd_T45 l0 (ji8)).f0)) ∧ w'.cell? ⟨(ad101.add (((ji8)).toNat * 9)).block, (ad101.add (((ji8)).toNat * 9)).off + 1, none⟩ = some (.int .i64 ((rd_T45 l0 (ji8)).f1)) ∧ w'.cell? ⟨(ad101.add (((ji8)).toNat * 9)).block, (ad101.add (((ji8)).toNat * 9)).off + 2, none⟩ = some (.int .i64 ((rd_T45 l0 (ji8)).f2)) ∧ w'.cell? ⟨(ad101.add (((ji8)).toNat * 9)).block, (ad101.add (((ji8)).toNat * 9)).off + 3, none⟩ = some (.int .i64 ((rd_T45 l0 (ji8)).f3.f0)) ∧ w'.cell? ⟨(ad101.add (((ji8)).toNat * 9)).block, (ad101.add (((ji8)).toNat * 9)).off + 4, none⟩ = some (.int .i64 ((rd_T45 l0 (ji8)).f3.f1)) ∧ w'.cell? ⟨(ad101.add (((ji8)).toNat * 9)).block, (ad101.add (((ji8)).toNat * 9)).off + 5, none⟩ = some (.int .i64 ((rd_T45 l0 (ji8)).f3.f2)) ∧ w'.cell? ⟨(ad101.add (((ji8)).toNat * 9)).block, (ad101.add (((ji8)).toNat * 9)).off + 6, none⟩ = some (.int .i64 ((rd_T45 l0 (ji8)).f3.f3)) ∧ w'.cell? ⟨(ad101.add (((ji8)).toNat * 9)).block, (ad101.add (((ji8)).toNat * 9)).off + 7, none⟩ = some (.slice A104_7 ((rd_T45 l0 (ji8)).f3.f4).length c104_7) ∧ w'.cell? ⟨(ad101.add (((ji8)).toNat * 9)).block, (ad101.add (((ji8)).toNat * 9)).off + 8, none⟩ = some (.bool ((rd_T45 l0 (ji8)).f3.f5))) [] (fun hHeld HT_ HW_ => ?_)
           generalize w16.drew = w17 at HO_3 BK102 HB HR104_7 hx104_0 hx104_1 hx104_2 hx104_3 hx104_4 hx104_5 hx104_6 hx104_7 hx104_8 hHeld ⊢
           refine tA 0 17 HT_ HW_ hHeld ?_; refine oA 1 18 HT_ (fun K hK => ?_)
           refine goes_ Try.func43 (by kernel_rfl) rfl #[.agg #[.string ((rd_T45 l0 x12_1).f0), .int .i64 ((rd_T45 l0 x12_1).f1), .int .i64 ((rd_T45 l0 x12_1).f2), .int .i64 ((rd_T45 l0 x12_1).f3.f0), .int .i64 ((rd_T45 l0 x12_1).f3.f1), .int .i64 ((rd_T45 l0 x12_1).f3.f2), .int .i64 ((rd_T45 l0 x12_1).f3.f3), .slice A101_7 ((rd_T45 l0 x12_1).f3.f4).length c101_7, .bool ((rd_T45 l0 x12_1).f3.f5)]] (by rfl) rfl rfl zee81 ?_
           with_reducible refine (spec_GoodEntry.calls k1 ((rd_T45 l0 x12_1).f0) ((rd_T45 l0 x12_1).f1) ((rd_T45 l0 x12_1).f2) ((rd_T45 l0 x12_1).f3.f0) ((rd_T45 l0 x12_1).f3.f1) ((rd_T45 l0 x12_1).f3.f2) ((rd_T45 l0 x12_1).f3.f3) _ _ ((rd_T45 l0 x12_1).f3.f4) ((rd_T45 l0 x12_1).f3.f5) true _ ?side1 ?side2 A5.out).mono ?_
           (case side1 => exact (cZ (Kd.C_below HR101_7.out HB.out)))
           (case side2 => exact HC101_7.out)
           rintro e w18 ⟨rfl, hb⟩
           refine ⟨_, rfl, ?_⟩
           have _ := aM (Kd.R_below (rZ HO_3.out) hb)
           have _ := bB gb102 hb
           have _ := aM (below_step hbZ hb)
           clear HO_3
           clear BK102
           clear HB
           rename_i HO_3 BK102 HB
           (try clear hb)
           (try clear hb2)
           (try clear hk)
           (try clear hi)
           refine hK.out _ _ sZ (fun hHeld => ?_)
           clear hK K
           refine nA 18 ?_; refine pA 2 19 HT_ ?_; refine pA 3 20 HT_ ?_; refine pA 4 21 HT_ ?_; refine pA 5 22 HT_ ?_; refine pA 6 23 HT_ ?_; refine pA 7 24 HT_ ?_; refine pA 8 25 HT_ ?_; refine pA 9 26 HT_ ?_; refine pA 10 27 HT_ ?_; refine tA 11 28 HT_ HW_ hHeld ?_; refine tA 12 29 HT_ HW_ hHeld ?_; refine oA 13 30 HT_ (fun K hK => ?_)
           refine goes_ Try.func65 (by kernel_rfl) rfl #[.agg #[.string ((rd_T45 l0 (ji8)).f0), .int .i64 ((rd_T45 l0 (ji8)).f1), .int .i64 ((rd_T45 l0 (ji8)).f2), .int .i64 ((rd_T45 l0 (ji8)).f3.f0), .int .i64 ((rd_T45 l0 (ji8)).f3.f1), .int .i64 ((rd_T45 l0 (ji8)).f3.f2), .int .i64 ((rd_T45 l0 (ji8)).f3.f3), .slice A104_7 ((rd_T45 l0 (ji8)).f3.f4).length c104_7, .bool ((rd_T45 l0 (ji8)).f3.f5)], .agg #[.string ((rd_T45 l0 x12_1).f0), .int .i64 ((rd_T45 l0 x12_1).f1), .int .i64 ((rd_T45 l0 x12_1).f2), .int .i64 ((rd_T45 l0 x12_1).f3.f0), .int .i64 ((rd_T45 l0 x12_1).f3.f1), .int .i64 ((rd_T45 l0 x12_1).f3.f2), .int .i64 ((rd_T45 l0 x12_1).f3.f3), .slice A101_7 ((rd_T45 l0 x12_1).f3.f4).length c101_7, .bool ((rd_T45 l0 x12_1).f3.f5)]] (by rfl) rfl rfl (by (try simp only [List.map_toArray, List.map_cons, List.map_nil]); first | done | (simp only [hji8]; rfl) | rfl | (simp only [List.length_drop, List.length_take]; rfl)) ?_
           with_reducible refine (spec_l5Before.calls ((rd_T45 l0 (ji8)).f0) ((rd_T45 l0 (ji8)).f1) ((rd_T45 l0 (ji8)).f2) ((rd_T45 l0 (ji8)).f3.f0) ((rd_T45 l0 (ji8)).f3.f1) ((rd_T45 l0 (ji8)).f3.f2) ((rd_T45 l0 (ji8)).f3.f3) _ _ ((rd_T45 l0 (ji8)).f3.f4) ((rd_T45 l0 (ji8)).f3.f5) ((rd_T45 l0 x12_1).f0) ((rd_T45 l0 x12_1).f1) ((rd_T45 l0 x12_1).f2) ((rd_T45 l0 x12_1).f3.f0) ((rd_T45 l0 x12_1).f3.f1) ((rd_T45 l0 x12_1).f3.f2) ((rd_T45 l0 x12_1).f3.f3) _ _ ((rd_T45 l0 x12_1).f3.f4) ((rd_T45 l0 x12_1).f3.f5) true _ ?side1 ?side2 ?side3 ?side4 A11.out).mono ?_
           (case side1 => exact (cZ (Kd.C_below HR104_7.out HB.out)))
           (case side2 => exact HC104_7.out)
           (case side3 => exact (cZ (Kd.C_below HR101_7.out HB.out)))
           (case side4 => exact HC101_7.out)
           rintro e w19 ⟨rfl, hb⟩
           refine ⟨_, rfl, ?_⟩
           have _ := aM (Kd.R_below (rZ HO_3.out) hb)
           have _ := bB gb102 hb
           have _ := aM (below_step hbZ hb)
           clear HO_3
           clear BK102
           clear HB
           rename_i HO_3 BK102 HB
           (try clear hb)
           (try clear hb2)
           (try clear hk)
           (try clear hi)
           refine hK.out _ _ sZ (fun hHeld => ?_)
           clear hK K
           refine nA 30 ?_; refine pA 14 31 HT_ ?_; refine pA 15 32 HT_ ?_; refine pA 16 33 HT_ ?_
           refine done_ (done_of HT_.out (by kernel_rfl)) ?_
           obtain ⟨hcz20_0, hcz20_1, hcz20_2, hcz20_3, hcz20_4, hcz20_5, hcz20_6, hcz20_7, hcz20_8, hfz20_0, hfz20_1, hfz20_2, hfz20_3, hfz20_4, hfz20_5, hfz20_6, hfz20_7, hfz20_8⟩ := cellsZ9 BK102.out
           try go_wp2_with (first | ((with_reducible refine gate_builtin (b := .append) (xs := #[.tmp 34, .tmp 37]) rfl ?_); at_builtin; refine Kd.R_append (Kd.int .i64) (w0 := w) w.heap.size rfl (.tmp 34) (.tmp 37) 24 3 (.int .i64 0) 8 rfl Try.underlying24 info3 rfl (by decide) (by omega) u3 x3_1 ((rd_T45 l0 x12_1).f1) [.int .i64 ((rd_T45 l0 x12_1).f1)] (fun _ => True) (fun _ => False) rfl rfl ?aP (fun _ hk => hk.elim) ?aF ?aO ?aB ?aS ?aL ?_; (case aP => exact rfl); (case aB => exact hbZ); (case aF => exact (fun _ _ => trivial)); (case aO => exact (rZ HO_3.out)); (case aS => exact (below_size hbZ)); (case aL => have := LMc13.out; omega); intro v107 w21 ho hb hg hat; rw [← Ny106.out] at ho; have _ := aM (blk_grown (g := gb102) bkZ hg (Kd.R_ne HO_3.out BK102.out (by decide))); have _ := aM hb; have _ := aM ho; clear BK102 HB HO_3; rename_i BK102 HB HO108; clear ho hb hg hat))
           go_roundg k1
           case measure => have := HK1.out; omega
           case rel => exact ⟨(y106), (wrap64 (x12_1 + 1)), z4458, H', ⟨zfb39⟩, ⟨rZ HO108.out⟩, ⟨zcb41⟩⟩
         · replace c12 := Bool.eq_false_iff.mpr c12
           subst c12
           rw [if_neg (show ¬ (false = true) by decide)] at H
           obtain rfl := Option.some.inj H
           have p101 : 0 ≤ (x12_1 : Int) := of_decide_eq_true z1200
           have q101 : x12_1 < (l0.length : Int) := of_decide_eq_true z1200
           obtain ⟨ad101, A101_7, c101_7, e101, hx101_0, hx101_1, hx101_2, hx101_3, hx101_4, hx101_5, hx101_6, hx101_7, hx101_8, hl101_7, hi101_7⟩ := at_T45 HR0.out x12_1 p101 q101
           cases e101
           have TW101_7 := aM hx101_7
           try replace hx101_0 := (HB.out.cell (World.block_lt_of_cell? w _ hx101_0)).trans hx101_0
           replace hx101_1 := (HB.out.cell (World.block_lt_of_cell? w _ hx101_1)).trans hx101_1
           replace hx101_2 := (HB.out.cell (World.block_lt_of_cell? w _ hx101_2)).trans hx101_2
           replace hx101_3 := (HB.out.cell (World.block_lt_of_cell? w _ hx101_3)).trans hx101_3
           replace hx101_4 := (HB.out.cell (World.block_lt_of_cell? w _ hx101_4)).trans hx101_4
           replace hx101_5 := (HB.out.cell (World.block_lt_of_cell? w _ hx101_5)).trans hx101_5
           replace hx101_6 := (HB.out.cell (World.block_lt_of_cell? w _ hx101_6)).trans hx101_6
           replace hx101_7 := (HB.out.cell (World.block_lt_of_cell? w _ hx101_7)).trans hx101_7
           replace hx101_8 := (HB.out.cell (World.block_lt_of_cell? w _ hx101_8)).trans hx101_8
           have HR101_7 := aM hi101_7
           have HC101_7 := aM hl101_7
           clear hi101_7 hl101_7
           replace p101 := eq_true p101
           replace q101 := eq_true q101
           try go_wp2_with (first | ((with_reducible refine gate_dst (N := 5) rfl ?_); refine box_event ?hg (N := 5) ?hd (cs := #[.string (⟨#[]⟩ : ByteArray), .int .i64 0, .int .i64 0, .int .i64 0, .int .i64 0, .int .i64 0, .int .i64 0, .slice none 0 0, .bool false]) (t := 45) ?hr ?_; (case hd => rfl); (case hg => rfl); (case hr => first | (go_simp; done) | (go_simp; rfl)); intro gb102 hg w22 hbox hb; have _ := aM (Kd.R_below (rZ HO_3.out) hb); have _ := aM (below_step hbZ hb); have _ := aM hbox; have _ := szZ hg; have _ := szZ hg; clear HO_3 HB; rename_i HO_3 HB BK102 GW102 GE102; clear hb hbox hg; obtain ⟨hcz23_0, hcz23_1, hcz23_2, hcz23_3, hcz23_4, hcz23_5, hcz23_6, hcz23_7, hcz23_8, hfz23_0, hfz23_1, hfz23_2, hfz23_3, hfz23_4, hfz23_5, hfz23_6, hfz23_7, hfz23_8⟩ := cellsZ9 BK102.out))
           have n0_ : Aside0 (Kd.R (Kd.int .i64) 3 (((((((((w22.setCell ⟨gb102, 0, none⟩ (.string ((rd_T45 l0 x12_1).f0))).setCell ⟨gb102, 1, none⟩ (.int .i64 ((rd_T45 l0 x12_1).f1))).setCell ⟨gb102, 2, none⟩ (.int .i64 ((rd_T45 l0 x12_1).f2))).setCell ⟨gb102, 3, none⟩ (.int .i64 ((rd_T45 l0 x12_1).f3.f0))).setCell ⟨gb102, 4, none⟩ (.int .i64 ((rd_T45 l0 x12_1).f3.f1))).setCell ⟨gb102, 5, none⟩ (.int .i64 ((rd_T45 l0 x12_1).f3.f2))).setCell ⟨gb102, 6, none⟩ (.int .i64 ((rd_T45 l0 x12_1).f3.f3))).setCell ⟨gb102, 7, none⟩ (.slice A101_7 ((rd_T45 l0 x12_1).f3.f4).length c101_7)).setCell ⟨gb102, 8, none⟩ (.bool ((rd_T45 l0 x12_1).f3.f5))) w.heap.size (fun _ => True) u3 x3_1) := ⟨by (with_reducible repeat (first | apply Kd.R_alloc | apply Kd.R_drewN | apply Kd.R_drew)); exact Kd.R_mono (Kd.R_far (p := ⟨gb102, 8, none⟩) (Kd.R_far (p := ⟨gb102, 7, none⟩) (Kd.R_far (p := ⟨gb102, 6, none⟩) (Kd.R_far (p := ⟨gb102, 5, none⟩) (Kd.R_far (p := ⟨gb102, 4, none⟩) (Kd.R_far (p := ⟨gb102, 3, none⟩) (Kd.R_far (p := ⟨gb102, 2, none⟩) (Kd.R_far (p := ⟨gb102, 1, none⟩) (Kd.R_far (p := ⟨gb102, 0, none⟩) (Kd.R_types HO_3.out BK102.out (by decide)) (fun _ hk => hk.2) (.string ((rd_T45 l0 x12_1).f0))) (fun _ hk => hk.2) (.int .i64 ((rd_T45 l0 x12_1).f1))) (fun _ hk => hk.2) (.int .i64 ((rd_T45 l0 x12_1).f2))) (fun _ hk => hk.2) (.int .i64 ((rd_T45 l0 x12_1).f3.f0))) (fun _ hk => hk.2) (.int .i64 ((rd_T45 l0 x12_1).f3.f1))) (fun _ hk => hk.2) (.int .i64 ((rd_T45 l0 x12_1).f3.f2))) (fun _ hk => hk.2) (.int .i64 ((rd_T45 l0 x12_1).f3.f3))) (fun _ hk => hk.2) (.slice A101_7 ((rd_T45 l0 x12_1).f3.f4).length c101_7)) (fun _ hk => hk.2) (.bool ((rd_T45 l0 x12_1).f3.f5))) (fun _ hk => trivial)⟩
           have n1_ : Aside0 ((((((((((w22.setCell ⟨gb102, 0, none⟩ (.string ((rd_T45 l0 x12_1).f0))).setCell ⟨gb102, 1, none⟩ (.int .i64 ((rd_T45 l0 x12_1).f1))).setCell ⟨gb102, 2, none⟩ (.int .i64 ((rd_T45 l0 x12_1).f2))).setCell ⟨gb102, 3, none⟩ (.int .i64 ((rd_T45 l0 x12_1).f3.f0))).setCell ⟨gb102, 4, none⟩ (.int .i64 ((rd_T45 l0 x12_1).f3.f1))).setCell ⟨gb102, 5, none⟩ (.int .i64 ((rd_T45 l0 x12_1).f3.f2))).setCell ⟨gb102, 6, none⟩ (.int .i64 ((rd_T45 l0 x12_1).f3.f3))).setCell ⟨gb102, 7, none⟩ (.slice A101_7 ((rd_T45 l0 x12_1).f3.f4).length c101_7)).setCell ⟨gb102, 8, none⟩ (.bool ((rd_T45 l0 x12_1).f3.f5))).heap[gb102]? = some (.cells #[.string ((rd_T45 l0 x12_1).f0), .int .i64 ((rd_T45 l0 x12_1).f1), .int .i64 ((rd_T45 l0 x12_1).f2), .int .i64 ((rd_T45 l0 x12_1).f3.f0), .int .i64 ((rd_T45 l0 x12_1).f3.f1), .int .i64 ((rd_T45 l0 x12_1).f3.f2), .int .i64 ((rd_T45 l0 x12_1).f3.f3), .slice A101_7 ((rd_T45 l0 x12_1).f3.f4).length c101_7, .bool ((rd_T45 l0 x12_1).f3.f5)] 45 (0, 0))) := ⟨bkZ⟩
           have n2_ : Aside0 (Below w.heap.size w (((((((((w22.setCell ⟨gb102, 0, none⟩ (.string ((rd_T45 l0 x12_1).f0))).setCell ⟨gb102, 1, none⟩ (.int .i64 ((rd_T45 l0 x12_1).f1))).setCell ⟨gb102, 2, none⟩ (.int .i64 ((rd_T45 l0 x12_1).f2))).setCell ⟨gb102, 3, none⟩ (.int .i64 ((rd_T45 l0 x12_1).f3.f0))).setCell ⟨gb102, 4, none⟩ (.int .i64 ((rd_T45 l0 x12_1).f3.f1))).setCell ⟨gb102, 5, none⟩ (.int .i64 ((rd_T45 l0 x12_1).f3.f2))).setCell ⟨gb102, 6, none⟩ (.int .i64 ((rd_T45 l0 x12_1).f3.f3))).setCell ⟨gb102, 7, none⟩ (.slice A101_7 ((rd_T45 l0 x12_1).f3.f4).length c101_7)).setCell ⟨gb102, 8, none⟩ (.bool ((rd_T45 l0 x12_1).f3.f5)))) := ⟨zcb41⟩
           (try clear HO_3)
           (try clear BK102)
           (try clear HB)
           generalize (((((((((w22.setCell ⟨gb102, 0, none⟩ (.string ((rd_T45 l0 x12_1).f0))).setCell ⟨gb102, 1, none⟩ (.int .i64 ((rd_T45 l0 x12_1).f1))).setCell ⟨gb102, 2, none⟩ (.int .i64 ((rd_T45 l0 x12_1).f2))).setCell ⟨gb102, 3, none⟩ (.int .i64 ((rd_T45 l0 x12_1).f3.f0))).setCell ⟨gb102, 4, none⟩ (.int .i64 ((rd_T45 l0 x12_1).f3.f1))).setCell ⟨gb102, 5, none⟩ (.int .i64 ((rd_T45 l0 x12_1).f3.f2))).setCell ⟨gb102, 6, none⟩ (.int .i64 ((rd_T45 l0 x12_1).f3.f3))).setCell ⟨gb102, 7, none⟩ (.slice A101_7 ((rd_T45 l0 x12_1).f3.f4).length c101_7)).setCell ⟨gb102, 8, none⟩ (.bool ((rd_T45 l0 x12_1).f3.f5))) = w24 at n0_ n1_ n2_ ⊢
           have HO_3 := n0_
           have BK102 := n1_
           have HB := n2_
           clear n0_ n1_ n2_
           have _ := aM (Kd.R_drew HO_3.out)
           have _ := aM (blk_drew BK102.out)
           have _ := aM (below_drew1 HB.out)
           clear HO_3
           clear BK102
           clear HB
           rename_i HO_3 BK102 HB
           have p104 : 0 ≤ ((ji8) : Int) := of_decide_eq_true z1200
           have q104 : (ji8) < (l0.length : Int) := of_decide_eq_true z1200
           obtain ⟨ad104, A104_7, c104_7, e104, hx104_0, hx104_1, hx104_2, hx104_3, hx104_4, hx104_5, hx104_6, hx104_7, hx104_8, hl104_7, hi104_7⟩ := at_T45 HR0.out (ji8) p104 q104
           have hw104_8 := hx104_8
           have hw104_7 := hx104_7
           have hw104_6 := hx104_6
           have hw104_5 := hx104_5
           have hw104_4 := hx104_4
           have hw104_3 := hx104_3
           have hw104_2 := hx104_2
           have hw104_1 := hx104_1
           have hw104_0 := hx104_0
           obtain rfl : ad101 = ad104 := (by injection e104)
           have TW104_7 := aM hx104_7
           try replace hx104_0 := (HB.out.cell (World.block_lt_of_cell? w _ hx104_0)).trans hx104_0
           replace hx104_1 := (HB.out.cell (World.block_lt_of_cell? w _ hx104_1)).trans hx104_1
           replace hx104_2 := (HB.out.cell (World.block_lt_of_cell? w _ hx104_2)).trans hx104_2
           replace hx104_3 := (HB.out.cell (World.block_lt_of_cell? w _ hx104_3)).trans hx104_3
           replace hx104_4 := (HB.out.cell (World.block_lt_of_cell? w _ hx104_4)).trans hx104_4
           replace hx104_5 := (HB.out.cell (World.block_lt_of_cell? w _ hx104_5)).trans hx104_5
           replace hx104_6 := (HB.out.cell (World.block_lt_of_cell? w _ hx104_6)).trans hx104_6
           replace hx104_7 := (HB.out.cell (World.block_lt_of_cell? w _ hx104_7)).trans hx104_7
           replace hx104_8 := (HB.out.cell (World.block_lt_of_cell? w _ hx104_8)).trans hx104_8
           have HR104_7 := aM hi104_7
           have HC104_7 := aM hl104_7
           clear hi104_7 hl104_7
           replace p104 := eq_true p104
           replace q104 := eq_true q104
           refine sA 17 spec_GoodEntries.tab5 spec_GoodEntries.bits5 (fun w' => w'.cell? ⟨gb102, 0, none⟩ = some (.string ((rd_T45 l0 x12_1).f0)) ∧ w'.cell? ⟨gb102, 1, none⟩ = some (.int .i64 ((rd_T45 l0 x12_1).f1)) ∧ w'.cell? ⟨gb102, 2, none⟩ = some (.int .i64 ((rd_T45 l0 x12_1).f2)) ∧ w'.cell? ⟨gb102, 3, none⟩ = some (.int .i64 ((rd_T45 l0 x12_1).f3.f0)) ∧ w'.cell? ⟨gb102, 4, none⟩ = some (.int .i64 ((rd_T45 l0 x12_1).f3.f1)) ∧ w'.cell? ⟨gb102, 5, none⟩ = some (.int .i64 ((rd_T45 l0 x12_1).f3.f2)) ∧ w'.cell? ⟨gb102, 6, none⟩ = some (.int .i64 ((rd_T45 l0 x12_1).f3.f3)) ∧ w'.cell? ⟨gb102, 7, none⟩ = some (.slice A101_7 ((rd_T45 l0 x12_1).f3.f4).length c101_7) ∧ w'.cell? ⟨gb102, 8, none⟩ = some (.bool ((rd_T45 l0 x12_1).f3.f5)) ∧ w'.cell? (ad101.add (((ji8)).toNat * 9)) = some (.string ((rd_T45 l0 (ji8)).f0)) ∧ w'.cell? ⟨(ad101.add (((ji8)).toNat * 9)).block, (ad101.add (((ji8)).toNat * 9)).off + 1, none⟩ = some (.int .i64 ((rd_T45 l0 (ji8)).f1)) ∧ w'.cell? ⟨(ad101.add (((ji8)).toNat * 9)).block, (ad101.add (((ji8)).toNat * 9)).off + 2, none⟩ = some (.int .i64 ((rd_T45 l0 (ji8)).f2)) ∧ w'.cell? ⟨(ad101.add (((ji8)).toNat * 9)).block, (ad101.add (((ji8)).toNat * 9)).off + 3, none⟩ = some (.int .i64 ((rd_T45 l0 (ji8)).f3.f0)) ∧ w'.cell? ⟨(ad101.add (((ji8)).toNat * 9)).block, (ad101.add (((ji8)).toNat * 9)).off + 4, none⟩ = some (.int .i64 ((rd_T45 l0 (ji8)).f3.f1)) ∧ w'.cell? ⟨(ad101.add (((ji8)).toNat * 9)).block, (ad101.add (((ji8)).toNat * 9)).off + 5, none⟩ = some (.int .i64 ((rd_T45 l0 (ji8)).f3.f2)) ∧ w'.cell? ⟨(ad101.add (((ji8)).toNat * 9)).block, (ad101.add (((ji8)).toNat * 9)).off + 6, none⟩ = some (.int .i64 ((rd_T45 l0 (ji8)).f3.f3)) ∧ w'.cell? ⟨(ad101.add (((ji8)).toNat * 9)).block, (ad101.add (((ji8)).toNat * 9)).off + 7, none⟩ = some (.slice A104_7 ((rd_T45 l0 (ji8)).f3.f4).length c104_7) ∧ w'.cell? ⟨(ad101.add (((ji8)).toNat * 9)).block, (ad101.add (((ji8)).toNat * 9)).off + 8, none⟩ = some (.bool ((rd_T45 l0 (ji8)).f3.f5))) [] (fun hHeld HT_ HW_ => ?_)
           generalize w24.drew = w25 at HO_3 BK102 HB HR104_7 hx104_0 hx104_1 hx104_2 hx104_3 hx104_4 hx104_5 hx104_6 hx104_7 hx104_8 hHeld ⊢
           refine tA 0 17 HT_ HW_ hHeld ?_; refine oA 1 18 HT_ (fun K hK => ?_)
           refine goes_ Try.func43 (by kernel_rfl) rfl #[.agg #[.string ((rd_T45 l0 x12_1).f0), .int .i64 ((rd_T45 l0 x12_1).f1), .int .i64 ((rd_T45 l0 x12_1).f2), .int .i64 ((rd_T45 l0 x12_1).f3.f0), .int .i64 ((rd_T45 l0 x12_1).f3.f1), .int .i64 ((rd_T45 l0 x12_1).f3.f2), .int .i64 ((rd_T45 l0 x12_1).f3.f3), .slice A101_7 ((rd_T45 l0 x12_1).f3.f4).length c101_7, .bool ((rd_T45 l0 x12_1).f3.f5)]] (by rfl) rfl rfl zee81 ?_
           with_reducible refine (spec_GoodEntry.calls k1 ((rd_T45 l0 x12_1).f0) ((rd_T45 l0 x12_1).f1) ((rd_T45 l0 x12_1).f2) ((rd_T45 l0 x12_1).f3.f0) ((rd_T45 l0 x12_1).f3.f1) ((rd_T45 l0 x12_1).f3.f2) ((rd_T45 l0 x12_1).f3.f3) _ _ ((rd_T45 l0 x12_1).f3.f4) ((rd_T45 l0 x12_1).f3.f5) true _ ?side1 ?side2 A5.out).mono ?_
           (case side1 => exact (cZ (Kd.C_below HR101_7.out HB.out)))
           (case side2 => exact HC101_7.out)
           rintro e w26 ⟨rfl, hb⟩
           refine ⟨_, rfl, ?_⟩
           have _ := aM (Kd.R_below (rZ HO_3.out) hb)
           have _ := bB gb102 hb
           have _ := aM (below_step hbZ hb)
           clear HO_3
           clear BK102
           clear HB
           rename_i HO_3 BK102 HB
           (try clear hb)
           (try clear hb2)
           (try clear hk)
           (try clear hi)
           refine hK.out _ _ sZ (fun hHeld => ?_)
           clear hK K
           refine nA 18 ?_; refine pA 2 19 HT_ ?_; refine pA 3 20 HT_ ?_; refine pA 4 21 HT_ ?_; refine pA 5 22 HT_ ?_; refine pA 6 23 HT_ ?_; refine pA 7 24 HT_ ?_; refine pA 8 25 HT_ ?_; refine pA 9 26 HT_ ?_; refine pA 10 27 HT_ ?_; refine tA 11 28 HT_ HW_ hHeld ?_; refine tA 12 29 HT_ HW_ hHeld ?_; refine oA 13 30 HT_ (fun K hK => ?_)
           refine goes_ Try.func65 (by kernel_rfl) rfl #[.agg #[.string ((rd_T45 l0 (ji8)).f0), .int .i64 ((rd_T45 l0 (ji8)).f1), .int .i64 ((rd_T45 l0 (ji8)).f2), .int .i64 ((rd_T45 l0 (ji8)).f3.f0), .int .i64 ((rd_T45 l0 (ji8)).f3.f1), .int .i64 ((rd_T45 l0 (ji8)).f3.f2), .int .i64 ((rd_T45 l0 (ji8)).f3.f3), .slice A104_7 ((rd_T45 l0 (ji8)).f3.f4).length c104_7, .bool ((rd_T45 l0 (ji8)).f3.f5)], .agg #[.string ((rd_T45 l0 x12_1).f0), .int .i64 ((rd_T45 l0 x12_1).f1), .int .i64 ((rd_T45 l0 x12_1).f2), .int .i64 ((rd_T45 l0 x12_1).f3.f0), .int .i64 ((rd_T45 l0 x12_1).f3.f1), .int .i64 ((rd_T45 l0 x12_1).f3.f2), .int .i64 ((rd_T45 l0 x12_1).f3.f3), .slice A101_7 ((rd_T45 l0 x12_1).f3.f4).length c101_7, .bool ((rd_T45 l0 x12_1).f3.f5)]] (by rfl) rfl rfl (by (try simp only [List.map_toArray, List.map_cons, List.map_nil]); first | done | (simp only [hji8]; rfl) | rfl | (simp only [List.length_drop, List.length_take]; rfl)) ?_
           with_reducible refine (spec_l5Before.calls ((rd_T45 l0 (ji8)).f0) ((rd_T45 l0 (ji8)).f1) ((rd_T45 l0 (ji8)).f2) ((rd_T45 l0 (ji8)).f3.f0) ((rd_T45 l0 (ji8)).f3.f1) ((rd_T45 l0 (ji8)).f3.f2) ((rd_T45 l0 (ji8)).f3.f3) _ _ ((rd_T45 l0 (ji8)).f3.f4) ((rd_T45 l0 (ji8)).f3.f5) ((rd_T45 l0 x12_1).f0) ((rd_T45 l0 x12_1).f1) ((rd_T45 l0 x12_1).f2) ((rd_T45 l0 x12_1).f3.f0) ((rd_T45 l0 x12_1).f3.f1) ((rd_T45 l0 x12_1).f3.f2) ((rd_T45 l0 x12_1).f3.f3) _ _ ((rd_T45 l0 x12_1).f3.f4) ((rd_T45 l0 x12_1).f3.f5) false _ ?side1 ?side2 ?side3 ?side4 A11.out).mono ?_
           (case side1 => exact (cZ (Kd.C_below HR104_7.out HB.out)))
           (case side2 => exact HC104_7.out)
           (case side3 => exact (cZ (Kd.C_below HR101_7.out HB.out)))
           (case side4 => exact HC101_7.out)
           rintro e w27 ⟨rfl, hb⟩
           refine ⟨_, rfl, ?_⟩
           have _ := aM (Kd.R_below (rZ HO_3.out) hb)
           have _ := bB gb102 hb
           have _ := aM (below_step hbZ hb)
           clear HO_3
           clear BK102
           clear HB
           rename_i HO_3 BK102 HB
           (try clear hb)
           (try clear hb2)
           (try clear hk)
           (try clear hi)
           refine hK.out _ _ sZ (fun hHeld => ?_)
           clear hK K
           refine nA 30 ?_; refine pA 14 31 HT_ ?_; refine pA 15 32 HT_ ?_; refine pA 16 33 HT_ ?_
           refine done_ (done_of HT_.out (by kernel_rfl)) ?_
           try go_wp2
           go_ret
           exact ⟨by first | rfl | (simp [errW_none, errW_some] <;> rfl) | (simp only [← hji8]; first | rfl | (simp [errW_none, errW_some] <;> rfl)) | (simp [*, errW_none, errW_some] <;> rfl), zcb41⟩
       · rw [if_neg c7] at H
         have c7b0 : decide (0 < x12_1) = false := decide_eq_false c7
         clear c7
         replace H := ifS H; obtain ⟨c28, H⟩ := H
         have LMc28 := aM c28
         clear c28
         obtain ⟨y109, hy109⟩ : ∃ y_ : List Int, y_ = (x3_1 ++ [(rd_T45 l0 x12_1).f1]) := ⟨_, rfl⟩
         first | (replace H := bindS H; rw [← hy109] at H; try dsimp only at H) | rw [← hy109] at H
         have Ny109 := aM hy109
         clear hy109
         have H' := aM H
         clear H
         have p101 : 0 ≤ (x12_1 : Int) := of_decide_eq_true z1200
         have q101 : x12_1 < (l0.length : Int) := of_decide_eq_true z1200
         obtain ⟨ad101, A101_7, c101_7, e101, hx101_0, hx101_1, hx101_2, hx101_3, hx101_4, hx101_5, hx101_6, hx101_7, hx101_8, hl101_7, hi101_7⟩ := at_T45 HR0.out x12_1 p101 q101
         cases e101
         have TW101_7 := aM hx101_7
         try replace hx101_0 := (HB.out.cell (World.block_lt_of_cell? w _ hx101_0)).trans hx101_0
         replace hx101_1 := (HB.out.cell (World.block_lt_of_cell? w _ hx101_1)).trans hx101_1
         replace hx101_2 := (HB.out.cell (World.block_lt_of_cell? w _ hx101_2)).trans hx101_2
         replace hx101_3 := (HB.out.cell (World.block_lt_of_cell? w _ hx101_3)).trans hx101_3
         replace hx101_4 := (HB.out.cell (World.block_lt_of_cell? w _ hx101_4)).trans hx101_4
         replace hx101_5 := (HB.out.cell (World.block_lt_of_cell? w _ hx101_5)).trans hx101_5
         replace hx101_6 := (HB.out.cell (World.block_lt_of_cell? w _ hx101_6)).trans hx101_6
         replace hx101_7 := (HB.out.cell (World.block_lt_of_cell? w _ hx101_7)).trans hx101_7
         replace hx101_8 := (HB.out.cell (World.block_lt_of_cell? w _ hx101_8)).trans hx101_8
         have HR101_7 := aM hi101_7
         have HC101_7 := aM hl101_7
         clear hi101_7 hl101_7
         replace p101 := eq_true p101
         replace q101 := eq_true q101
         try go_wp2_with (first | ((with_reducible refine gate_dst (N := 5) rfl ?_); refine box_event ?hg (N := 5) ?hd (cs := #[.string (⟨#[]⟩ : ByteArray), .int .i64 0, .int .i64 0, .int .i64 0, .int .i64 0, .int .i64 0, .int .i64 0, .slice none 0 0, .bool false]) (t := 45) ?hr ?_; (case hd => rfl); (case hg => rfl); (case hr => first | (go_simp; done) | (go_simp; rfl)); intro gb102 hg w29 hbox hb; have _ := aM (Kd.R_below (rZ HO_3.out) hb); have _ := aM (below_step hbZ hb); have _ := aM hbox; have _ := szZ hg; have _ := szZ hg; clear HO_3 HB; rename_i HO_3 HB BK102 GW102 GE102; clear hb hbox hg; obtain ⟨hcz30_0, hcz30_1, hcz30_2, hcz30_3, hcz30_4, hcz30_5, hcz30_6, hcz30_7, hcz30_8, hfz30_0, hfz30_1, hfz30_2, hfz30_3, hfz30_4, hfz30_5, hfz30_6, hfz30_7, hfz30_8⟩ := cellsZ9 BK102.out))
         have n0_ : Aside0 (Kd.R (Kd.int .i64) 3 (((((((((w29.setCell ⟨gb102, 0, none⟩ (.string ((rd_T45 l0 x12_1).f0))).setCell ⟨gb102, 1, none⟩ (.int .i64 ((rd_T45 l0 x12_1).f1))).setCell ⟨gb102, 2, none⟩ (.int .i64 ((rd_T45 l0 x12_1).f2))).setCell ⟨gb102, 3, none⟩ (.int .i64 ((rd_T45 l0 x12_1).f3.f0))).setCell ⟨gb102, 4, none⟩ (.int .i64 ((rd_T45 l0 x12_1).f3.f1))).setCell ⟨gb102, 5, none⟩ (.int .i64 ((rd_T45 l0 x12_1).f3.f2))).setCell ⟨gb102, 6, none⟩ (.int .i64 ((rd_T45 l0 x12_1).f3.f3))).setCell ⟨gb102, 7, none⟩ (.slice A101_7 ((rd_T45 l0 x12_1).f3.f4).length c101_7)).setCell ⟨gb102, 8, none⟩ (.bool ((rd_T45 l0 x12_1).f3.f5))) w.heap.size (fun _ => True) u3 x3_1) := ⟨by (with_reducible repeat (first | apply Kd.R_alloc | apply Kd.R_drewN | apply Kd.R_drew)); exact Kd.R_mono (Kd.R_far (p := ⟨gb102, 8, none⟩) (Kd.R_far (p := ⟨gb102, 7, none⟩) (Kd.R_far (p := ⟨gb102, 6, none⟩) (Kd.R_far (p := ⟨gb102, 5, none⟩) (Kd.R_far (p := ⟨gb102, 4, none⟩) (Kd.R_far (p := ⟨gb102, 3, none⟩) (Kd.R_far (p := ⟨gb102, 2, none⟩) (Kd.R_far (p := ⟨gb102, 1, none⟩) (Kd.R_far (p := ⟨gb102, 0, none⟩) (Kd.R_types HO_3.out BK102.out (by decide)) (fun _ hk => hk.2) (.string ((rd_T45 l0 x12_1).f0))) (fun _ hk => hk.2) (.int .i64 ((rd_T45 l0 x12_1).f1))) (fun _ hk => hk.2) (.int .i64 ((rd_T45 l0 x12_1).f2))) (fun _ hk => hk.2) (.int .i64 ((rd_T45 l0 x12_1).f3.f0))) (fun _ hk => hk.2) (.int .i64 ((rd_T45 l0 x12_1).f3.f1))) (fun _ hk => hk.2) (.int .i64 ((rd_T45 l0 x12_1).f3.f2))) (fun _ hk => hk.2) (.int .i64 ((rd_T45 l0 x12_1).f3.f3))) (fun _ hk => hk.2) (.slice A101_7 ((rd_T45 l0 x12_1).f3.f4).length c101_7)) (fun _ hk => hk.2) (.bool ((rd_T45 l0 x12_1).f3.f5))) (fun _ hk => trivial)⟩
         have n1_ : Aside0 ((((((((((w29.setCell ⟨gb102, 0, none⟩ (.string ((rd_T45 l0 x12_1).f0))).setCell ⟨gb102, 1, none⟩ (.int .i64 ((rd_T45 l0 x12_1).f1))).setCell ⟨gb102, 2, none⟩ (.int .i64 ((rd_T45 l0 x12_1).f2))).setCell ⟨gb102, 3, none⟩ (.int .i64 ((rd_T45 l0 x12_1).f3.f0))).setCell ⟨gb102, 4, none⟩ (.int .i64 ((rd_T45 l0 x12_1).f3.f1))).setCell ⟨gb102, 5, none⟩ (.int .i64 ((rd_T45 l0 x12_1).f3.f2))).setCell ⟨gb102, 6, none⟩ (.int .i64 ((rd_T45 l0 x12_1).f3.f3))).setCell ⟨gb102, 7, none⟩ (.slice A101_7 ((rd_T45 l0 x12_1).f3.f4).length c101_7)).setCell ⟨gb102, 8, none⟩ (.bool ((rd_T45 l0 x12_1).f3.f5))).heap[gb102]? = some (.cells #[.string ((rd_T45 l0 x12_1).f0), .int .i64 ((rd_T45 l0 x12_1).f1), .int .i64 ((rd_T45 l0 x12_1).f2), .int .i64 ((rd_T45 l0 x12_1).f3.f0), .int .i64 ((rd_T45 l0 x12_1).f3.f1), .int .i64 ((rd_T45 l0 x12_1).f3.f2), .int .i64 ((rd_T45 l0 x12_1).f3.f3), .slice A101_7 ((rd_T45 l0 x12_1).f3.f4).length c101_7, .bool ((rd_T45 l0 x12_1).f3.f5)] 45 (0, 0))) := ⟨bkZ⟩
         have n2_ : Aside0 (Below w.heap.size w (((((((((w29.setCell ⟨gb102, 0, none⟩ (.string ((rd_T45 l0 x12_1).f0))).setCell ⟨gb102, 1, none⟩ (.int .i64 ((rd_T45 l0 x12_1).f1))).setCell ⟨gb102, 2, none⟩ (.int .i64 ((rd_T45 l0 x12_1).f2))).setCell ⟨gb102, 3, none⟩ (.int .i64 ((rd_T45 l0 x12_1).f3.f0))).setCell ⟨gb102, 4, none⟩ (.int .i64 ((rd_T45 l0 x12_1).f3.f1))).setCell ⟨gb102, 5, none⟩ (.int .i64 ((rd_T45 l0 x12_1).f3.f2))).setCell ⟨gb102, 6, none⟩ (.int .i64 ((rd_T45 l0 x12_1).f3.f3))).setCell ⟨gb102, 7, none⟩ (.slice A101_7 ((rd_T45 l0 x12_1).f3.f4).length c101_7)).setCell ⟨gb102, 8, none⟩ (.bool ((rd_T45 l0 x12_1).f3.f5)))) := ⟨zcb41⟩
         (try clear HO_3)
         (try clear BK102)
         (try clear HB)
         generalize (((((((((w29.setCell ⟨gb102, 0, none⟩ (.string ((rd_T45 l0 x12_1).f0))).setCell ⟨gb102, 1, none⟩ (.int .i64 ((rd_T45 l0 x12_1).f1))).setCell ⟨gb102, 2, none⟩ (.int .i64 ((rd_T45 l0 x12_1).f2))).setCell ⟨gb102, 3, none⟩ (.int .i64 ((rd_T45 l0 x12_1).f3.f0))).setCell ⟨gb102, 4, none⟩ (.int .i64 ((rd_T45 l0 x12_1).f3.f1))).setCell ⟨gb102, 5, none⟩ (.int .i64 ((rd_T45 l0 x12_1).f3.f2))).setCell ⟨gb102, 6, none⟩ (.int .i64 ((rd_T45 l0 x12_1).f3.f3))).setCell ⟨gb102, 7, none⟩ (.slice A101_7 ((rd_T45 l0 x12_1).f3.f4).length c101_7)).setCell ⟨gb102, 8, none⟩ (.bool ((rd_T45 l0 x12_1).f3.f5))) = w31 at n0_ n1_ n2_ ⊢
         have HO_3 := n0_
         have BK102 := n1_
         have HB := n2_
         clear n0_ n1_ n2_
         have _ := aM (Kd.R_drew HO_3.out)
         have _ := aM (blk_drew BK102.out)
         have _ := aM (below_drew1 HB.out)
         clear HO_3
         clear BK102
         clear HB
         rename_i HO_3 BK102 HB
         refine sA 17 spec_GoodEntries.tab5 spec_GoodEntries.bits5 (fun w' => w'.cell? ⟨gb102, 0, none⟩ = some (.string ((rd_T45 l0 x12_1).f0)) ∧ w'.cell? ⟨gb102, 1, none⟩ = some (.int .i64 ((rd_T45 l0 x12_1).f1)) ∧ w'.cell? ⟨gb102, 2, none⟩ = some (.int .i64 ((rd_T45 l0 x12_1).f2)) ∧ w'.cell? ⟨gb102, 3, none⟩ = some (.int .i64 ((rd_T45 l0 x12_1).f3.f0)) ∧ w'.cell? ⟨gb102, 4, none⟩ = some (.int .i64 ((rd_T45 l0 x12_1).f3.f1)) ∧ w'.cell? ⟨gb102, 5, none⟩ = some (.int .i64 ((rd_T45 l0 x12_1).f3.f2)) ∧ w'.cell? ⟨gb102, 6, none⟩ = some (.int .i64 ((rd_T45 l0 x12_1).f3.f3)) ∧ w'.cell? ⟨gb102, 7, none⟩ = some (.slice A101_7 ((rd_T45 l0 x12_1).f3.f4).length c101_7) ∧ w'.cell? ⟨gb102, 8, none⟩ = some (.bool ((rd_T45 l0 x12_1).f3.f5))) [] (fun hHeld HT_ HW_ => ?_)
         generalize w31.drew = w32 at HO_3 BK102 HB hHeld ⊢
         refine tA 0 17 HT_ HW_ hHeld ?_; refine oA 1 18 HT_ (fun K hK => ?_)
         refine goes_ Try.func43 (by kernel_rfl) rfl #[.agg #[.string ((rd_T45 l0 x12_1).f0), .int .i64 ((rd_T45 l0 x12_1).f1), .int .i64 ((rd_T45 l0 x12_1).f2), .int .i64 ((rd_T45 l0 x12_1).f3.f0), .int .i64 ((rd_T45 l0 x12_1).f3.f1), .int .i64 ((rd_T45 l0 x12_1).f3.f2), .int .i64 ((rd_T45 l0 x12_1).f3.f3), .slice A101_7 ((rd_T45 l0 x12_1).f3.f4).length c101_7, .bool ((rd_T45 l0 x12_1).f3.f5)]] (by rfl) rfl rfl zee81 ?_
         with_reducible refine (spec_GoodEntry.calls k1 ((rd_T45 l0 x12_1).f0) ((rd_T45 l0 x12_1).f1) ((rd_T45 l0 x12_1).f2) ((rd_T45 l0 x12_1).f3.f0) ((rd_T45 l0 x12_1).f3.f1) ((rd_T45 l0 x12_1).f3.f2) ((rd_T45 l0 x12_1).f3.f3) _ _ ((rd_T45 l0 x12_1).f3.f4) ((rd_T45 l0 x12_1).f3.f5) true _ ?side1 ?side2 A5.out).mono ?_
         (case side1 => exact (cZ (Kd.C_below HR101_7.out HB.out)))
         (case side2 => exact HC101_7.out)
         rintro e w33 ⟨rfl, hb⟩
         refine ⟨_, rfl, ?_⟩
         have _ := aM (Kd.R_below (rZ HO_3.out) hb)
         have _ := bB gb102 hb
         have _ := aM (below_step hbZ hb)
         clear HO_3
         clear BK102
         clear HB
         rename_i HO_3 BK102 HB
         (try clear hb)
         (try clear hb2)
         (try clear hk)
         (try clear hi)
         refine hK.out _ _ sZ (fun hHeld => ?_)
         clear hK K
         refine nA 18 ?_; refine pA 2 19 HT_ ?_; refine pA 3 20 HT_ ?_; refine pA 4 21 HT_ ?_; refine pA 5 22 HT_ ?_; refine pA 6 23 HT_ ?_; refine uA 7 24 HT_ ?_; refine uA 8 25 HT_ ?_; refine uA 9 26 HT_ ?_; refine uA 10 27 HT_ ?_; refine uA 11 28 HT_ ?_; refine uA 12 29 HT_ ?_; refine uA 13 30 HT_ ?_; refine uA 14 31 HT_ ?_; refine pA 15 32 HT_ ?_; refine pA 16 33 HT_ ?_
         refine done_ (done_of HT_.out (by kernel_rfl)) ?_
         obtain ⟨hcz34_0, hcz34_1, hcz34_2, hcz34_3, hcz34_4, hcz34_5, hcz34_6, hcz34_7, hcz34_8, hfz34_0, hfz34_1, hfz34_2, hfz34_3, hfz34_4, hfz34_5, hfz34_6, hfz34_7, hfz34_8⟩ := cellsZ9 BK102.out
         try go_wp2_with (first | ((with_reducible refine gate_builtin (b := .append) (xs := #[.tmp 34, .tmp 37]) rfl ?_); at_builtin; refine Kd.R_append (Kd.int .i64) (w0 := w) w.heap.size rfl (.tmp 34) (.tmp 37) 24 3 (.int .i64 0) 8 rfl Try.underlying24 info3 rfl (by decide) (by omega) u3 x3_1 ((rd_T45 l0 x12_1).f1) [.int .i64 ((rd_T45 l0 x12_1).f1)] (fun _ => True) (fun _ => False) rfl rfl ?aP (fun _ hk => hk.elim) ?aF ?aO ?aB ?aS ?aL ?_; (case aP => exact rfl); (case aB => exact hbZ); (case aF => exact (fun _ _ => trivial)); (case aO => exact (rZ HO_3.out)); (case aS => exact (below_size hbZ)); (case aL => have := LMc28.out; omega); intro v110 w35 ho hb hg hat; rw [← Ny109.out] at ho; have _ := aM (blk_grown (g := gb102) bkZ hg (Kd.R_ne HO_3.out BK102.out (by decide))); have _ := aM hb; have _ := aM ho; clear BK102 HB HO_3; rename_i BK102 HB HO111; clear ho hb hg hat))
         go_roundg k1
         case measure => have := HK1.out; omega
         case rel => exact ⟨(y109), (wrap64 (x12_1 + 1)), z4458, H', ⟨zfb39⟩, ⟨rZ HO111.out⟩, ⟨zcb41⟩⟩
     · replace c6 := Bool.eq_false_iff.mpr c6
       subst c6
       rw [if_neg (show ¬ (false = true) by decide)] at H
       obtain rfl := Option.some.inj H
       have p101 : 0 ≤ (x12_1 : Int) := of_decide_eq_true z1200
       have q101 : x12_1 < (l0.length : Int) := of_decide_eq_true z1200
       obtain ⟨ad101, A101_7, c101_7, e101, hx101_0, hx101_1, hx101_2, hx101_3, hx101_4, hx101_5, hx101_6, hx101_7, hx101_8, hl101_7, hi101_7⟩ := at_T45 HR0.out x12_1 p101 q101
       cases e101
       have TW101_7 := aM hx101_7
       try replace hx101_0 := (HB.out.cell (World.block_lt_of_cell? w _ hx101_0)).trans hx101_0
       replace hx101_1 := (HB.out.cell (World.block_lt_of_cell? w _ hx101_1)).trans hx101_1
       replace hx101_2 := (HB.out.cell (World.block_lt_of_cell? w _ hx101_2)).trans hx101_2
       replace hx101_3 := (HB.out.cell (World.block_lt_of_cell? w _ hx101_3)).trans hx101_3
       replace hx101_4 := (HB.out.cell (World.block_lt_of_cell? w _ hx101_4)).trans hx101_4
       replace hx101_5 := (HB.out.cell (World.block_lt_of_cell? w _ hx101_5)).trans hx101_5
       replace hx101_6 := (HB.out.cell (World.block_lt_of_cell? w _ hx101_6)).trans hx101_6
       replace hx101_7 := (HB.out.cell (World.block_lt_of_cell? w _ hx101_7)).trans hx101_7
       replace hx101_8 := (HB.out.cell (World.block_lt_of_cell? w _ hx101_8)).trans hx101_8
       have HR101_7 := aM hi101_7
       have HC101_7 := aM hl101_7
       clear hi101_7 hl101_7
       replace p101 := eq_true p101
       replace q101 := eq_true q101
       try go_wp2_with (first | ((with_reducible refine gate_dst (N := 5) rfl ?_); refine box_event ?hg (N := 5) ?hd (cs := #[.string (⟨#[]⟩ : ByteArray), .int .i64 0, .int .i64 0, .int .i64 0, .int .i64 0, .int .i64 0, .int .i64 0, .slice none 0 0, .bool false]) (t := 45) ?hr ?_; (case hd => rfl); (case hg => rfl); (case hr => first | (go_simp; done) | (go_simp; rfl)); intro gb102 hg w36 hbox hb; have _ := aM (Kd.R_below (rZ HO_3.out) hb); have _ := aM (below_step hbZ hb); have _ := aM hbox; have _ := szZ hg; have _ := szZ hg; clear HO_3 HB; rename_i HO_3 HB BK102 GW102 GE102; clear hb hbox hg; obtain ⟨hcz37_0, hcz37_1, hcz37_2, hcz37_3, hcz37_4, hcz37_5, hcz37_6, hcz37_7, hcz37_8, hfz37_0, hfz37_1, hfz37_2, hfz37_3, hfz37_4, hfz37_5, hfz37_6, hfz37_7, hfz37_8⟩ := cellsZ9 BK102.out))
       have n0_ : Aside0 (Kd.R (Kd.int .i64) 3 (((((((((w36.setCell ⟨gb102, 0, none⟩ (.string ((rd_T45 l0 x12_1).f0))).setCell ⟨gb102, 1, none⟩ (.int .i64 ((rd_T45 l0 x12_1).f1))).setCell ⟨gb102, 2, none⟩ (.int .i64 ((rd_T45 l0 x12_1).f2))).setCell ⟨gb102, 3, none⟩ (.int .i64 ((rd_T45 l0 x12_1).f3.f0))).setCell ⟨gb102, 4, none⟩ (.int .i64 ((rd_T45 l0 x12_1).f3.f1))).setCell ⟨gb102, 5, none⟩ (.int .i64 ((rd_T45 l0 x12_1).f3.f2))).setCell ⟨gb102, 6, none⟩ (.int .i64 ((rd_T45 l0 x12_1).f3.f3))).setCell ⟨gb102, 7, none⟩ (.slice A101_7 ((rd_T45 l0 x12_1).f3.f4).length c101_7)).setCell ⟨gb102, 8, none⟩ (.bool ((rd_T45 l0 x12_1).f3.f5))) w.heap.size (fun _ => True) u3 x3_1) := ⟨by (with_reducible repeat (first | apply Kd.R_alloc | apply Kd.R_drewN | apply Kd.R_drew)); exact Kd.R_mono (Kd.R_far (p := ⟨gb102, 8, none⟩) (Kd.R_far (p := ⟨gb102, 7, none⟩) (Kd.R_far (p := ⟨gb102, 6, none⟩) (Kd.R_far (p := ⟨gb102, 5, none⟩) (Kd.R_far (p := ⟨gb102, 4, none⟩) (Kd.R_far (p := ⟨gb102, 3, none⟩) (Kd.R_far (p := ⟨gb102, 2, none⟩) (Kd.R_far (p := ⟨gb102, 1, none⟩) (Kd.R_far (p := ⟨gb102, 0, none⟩) (Kd.R_types HO_3.out BK102.out (by decide)) (fun _ hk => hk.2) (.string ((rd_T45 l0 x12_1).f0))) (fun _ hk => hk.2) (.int .i64 ((rd_T45 l0 x12_1).f1))) (fun _ hk => hk.2) (.int .i64 ((rd_T45 l0 x12_1).f2))) (fun _ hk => hk.2) (.int .i64 ((rd_T45 l0 x12_1).f3.f0))) (fun _ hk => hk.2) (.int .i64 ((rd_T45 l0 x12_1).f3.f1))) (fun _ hk => hk.2) (.int .i64 ((rd_T45 l0 x12_1).f3.f2))) (fun _ hk => hk.2) (.int .i64 ((rd_T45 l0 x12_1).f3.f3))) (fun _ hk => hk.2) (.slice A101_7 ((rd_T45 l0 x12_1).f3.f4).length c101_7)) (fun _ hk => hk.2) (.bool ((rd_T45 l0 x12_1).f3.f5))) (fun _ hk => trivial)⟩
       have n1_ : Aside0 ((((((((((w36.setCell ⟨gb102, 0, none⟩ (.string ((rd_T45 l0 x12_1).f0))).setCell ⟨gb102, 1, none⟩ (.int .i64 ((rd_T45 l0 x12_1).f1))).setCell ⟨gb102, 2, none⟩ (.int .i64 ((rd_T45 l0 x12_1).f2))).setCell ⟨gb102, 3, none⟩ (.int .i64 ((rd_T45 l0 x12_1).f3.f0))).setCell ⟨gb102, 4, none⟩ (.int .i64 ((rd_T45 l0 x12_1).f3.f1))).setCell ⟨gb102, 5, none⟩ (.int .i64 ((rd_T45 l0 x12_1).f3.f2))).setCell ⟨gb102, 6, none⟩ (.int .i64 ((rd_T45 l0 x12_1).f3.f3))).setCell ⟨gb102, 7, none⟩ (.slice A101_7 ((rd_T45 l0 x12_1).f3.f4).length c101_7)).setCell ⟨gb102, 8, none⟩ (.bool ((rd_T45 l0 x12_1).f3.f5))).heap[gb102]? = some (.cells #[.string ((rd_T45 l0 x12_1).f0), .int .i64 ((rd_T45 l0 x12_1).f1), .int .i64 ((rd_T45 l0 x12_1).f2), .int .i64 ((rd_T45 l0 x12_1).f3.f0), .int .i64 ((rd_T45 l0 x12_1).f3.f1), .int .i64 ((rd_T45 l0 x12_1).f3.f2), .int .i64 ((rd_T45 l0 x12_1).f3.f3), .slice A101_7 ((rd_T45 l0 x12_1).f3.f4).length c101_7, .bool ((rd_T45 l0 x12_1).f3.f5)] 45 (0, 0))) := ⟨bkZ⟩
       have n2_ : Aside0 (Below w.heap.size w (((((((((w36.setCell ⟨gb102, 0, none⟩ (.string ((rd_T45 l0 x12_1).f0))).setCell ⟨gb102, 1, none⟩ (.int .i64 ((rd_T45 l0 x12_1).f1))).setCell ⟨gb102, 2, none⟩ (.int .i64 ((rd_T45 l0 x12_1).f2))).setCell ⟨gb102, 3, none⟩ (.int .i64 ((rd_T45 l0 x12_1).f3.f0))).setCell ⟨gb102, 4, none⟩ (.int .i64 ((rd_T45 l0 x12_1).f3.f1))).setCell ⟨gb102, 5, none⟩ (.int .i64 ((rd_T45 l0 x12_1).f3.f2))).setCell ⟨gb102, 6, none⟩ (.int .i64 ((rd_T45 l0 x12_1).f3.f3))).setCell ⟨gb102, 7, none⟩ (.slice A101_7 ((rd_T45 l0 x12_1).f3.f4).length c101_7)).setCell ⟨gb102, 8, none⟩ (.bool ((rd_T45 l0 x12_1).f3.f5)))) := ⟨zcb41⟩
       (try clear HO_3)
       (try clear BK102)
       (try clear HB)
       generalize (((((((((w36.setCell ⟨gb102, 0, none⟩ (.string ((rd_T45 l0 x12_1).f0))).setCell ⟨gb102, 1, none⟩ (.int .i64 ((rd_T45 l0 x12_1).f1))).setCell ⟨gb102, 2, none⟩ (.int .i64 ((rd_T45 l0 x12_1).f2))).setCell ⟨gb102, 3, none⟩ (.int .i64 ((rd_T45 l0 x12_1).f3.f0))).setCell ⟨gb102, 4, none⟩ (.int .i64 ((rd_T45 l0 x12_1).f3.f1))).setCell ⟨gb102, 5, none⟩ (.int .i64 ((rd_T45 l0 x12_1).f3.f2))).setCell ⟨gb102, 6, none⟩ (.int .i64 ((rd_T45 l0 x12_1).f3.f3))).setCell ⟨gb102, 7, none⟩ (.slice A101_7 ((rd_T45 l0 x12_1).f3.f4).length c101_7)).setCell ⟨gb102, 8, none⟩ (.bool ((rd_T45 l0 x12_1).f3.f5))) = w38 at n0_ n1_ n2_ ⊢
       have HO_3 := n0_
       have BK102 := n1_
       have HB := n2_
       clear n0_ n1_ n2_
       have _ := aM (Kd.R_drew HO_3.out)
       have _ := aM (blk_drew BK102.out)
       have _ := aM (below_drew1 HB.out)
       clear HO_3
       clear BK102
       clear HB
       rename_i HO_3 BK102 HB
       refine sA 17 spec_GoodEntries.tab5 spec_GoodEntries.bits5 (fun w' => w'.cell? ⟨gb102, 0, none⟩ = some (.string ((rd_T45 l0 x12_1).f0)) ∧ w'.cell? ⟨gb102, 1, none⟩ = some (.int .i64 ((rd_T45 l0 x12_1).f1)) ∧ w'.cell? ⟨gb102, 2, none⟩ = some (.int .i64 ((rd_T45 l0 x12_1).f2)) ∧ w'.cell? ⟨gb102, 3, none⟩ = some (.int .i64 ((rd_T45 l0 x12_1).f3.f0)) ∧ w'.cell? ⟨gb102, 4, none⟩ = some (.int .i64 ((rd_T45 l0 x12_1).f3.f1)) ∧ w'.cell? ⟨gb102, 5, none⟩ = some (.int .i64 ((rd_T45 l0 x12_1).f3.f2)) ∧ w'.cell? ⟨gb102, 6, none⟩ = some (.int .i64 ((rd_T45 l0 x12_1).f3.f3)) ∧ w'.cell? ⟨gb102, 7, none⟩ = some (.slice A101_7 ((rd_T45 l0 x12_1).f3.f4).length c101_7) ∧ w'.cell? ⟨gb102, 8, none⟩ = some (.bool ((rd_T45 l0 x12_1).f3.f5))) [] (fun hHeld HT_ HW_ => ?_)
       generalize w38.drew = w39 at HO_3 BK102 HB hHeld ⊢
       refine tA 0 17 HT_ HW_ hHeld ?_; refine oA 1 18 HT_ (fun K hK => ?_)
       refine goes_ Try.func43 (by kernel_rfl) rfl #[.agg #[.string ((rd_T45 l0 x12_1).f0), .int .i64 ((rd_T45 l0 x12_1).f1), .int .i64 ((rd_T45 l0 x12_1).f2), .int .i64 ((rd_T45 l0 x12_1).f3.f0), .int .i64 ((rd_T45 l0 x12_1).f3.f1), .int .i64 ((rd_T45 l0 x12_1).f3.f2), .int .i64 ((rd_T45 l0 x12_1).f3.f3), .slice A101_7 ((rd_T45 l0 x12_1).f3.f4).length c101_7, .bool ((rd_T45 l0 x12_1).f3.f5)]] (by rfl) rfl rfl zee81 ?_
       with_reducible refine (spec_GoodEntry.calls k1 ((rd_T45 l0 x12_1).f0) ((rd_T45 l0 x12_1).f1) ((rd_T45 l0 x12_1).f2) ((rd_T45 l0 x12_1).f3.f0) ((rd_T45 l0 x12_1).f3.f1) ((rd_T45 l0 x12_1).f3.f2) ((rd_T45 l0 x12_1).f3.f3) _ _ ((rd_T45 l0 x12_1).f3.f4) ((rd_T45 l0 x12_1).f3.f5) false _ ?side1 ?side2 A5.out).mono ?_
       (case side1 => exact (cZ (Kd.C_below HR101_7.out HB.out)))
       (case side2 => exact HC101_7.out)
       rintro e w40 ⟨rfl, hb⟩
       refine ⟨_, rfl, ?_⟩
       have _ := aM (Kd.R_below (rZ HO_3.out) hb)
       have _ := bB gb102 hb
       have _ := aM (below_step hbZ hb)
       clear HO_3
       clear BK102
       clear HB
       rename_i HO_3 BK102 HB
       (try clear hb)
       (try clear hb2)
       (try clear hk)
       (try clear hi)
       refine hK.out _ _ sZ (fun hHeld => ?_)
       clear hK K
       refine nA 18 ?_; refine pA 2 19 HT_ ?_; refine pA 3 20 HT_ ?_; refine uA 4 21 HT_ ?_; refine uA 5 22 HT_ ?_; refine uA 6 23 HT_ ?_; refine uA 7 24 HT_ ?_; refine uA 8 25 HT_ ?_; refine uA 9 26 HT_ ?_; refine uA 10 27 HT_ ?_; refine uA 11 28 HT_ ?_; refine uA 12 29 HT_ ?_; refine uA 13 30 HT_ ?_; refine uA 14 31 HT_ ?_; refine uA 15 32 HT_ ?_; refine pA 16 33 HT_ ?_
       refine done_ (done_of HT_.out (by kernel_rfl)) ?_
       try go_wp2
       go_ret
       exact ⟨z674d, zcb41⟩
   · rw [if_neg c2] at H
     have c2b0 : decide (x12_1 < (l0.length : Int)) = false := decide_eq_false c2
     clear c2
     have H' := aM H
     clear H
     obtain ⟨Ao41, co41, eo41⟩ := Kd.R_slice HO_3.out
     subst eo41
     go_wp2
     go_loopg [42] k1 (fun kq v42 w' => ∃ (x42_2 : Int), v42 = .int .i64 x42_2 ∧ Aside0 (spec_GoodEntries.l1 kq x3_1 x3_1 (x3_1.length : Int) x42_2 = some r) ∧ Aside0 (kq ≤ k1) ∧ Aside0 (Kd.R (Kd.int .i64) 3 w' w.heap.size (fun _ => True) (.slice Ao41 x3_1.length co41) x3_1) ∧ Aside0 (Kd.R (Kd.int .i64) 3 w' w.heap.size (fun _ => True) (.slice Ao41 x3_1.length co41) x3_1) ∧ Aside0 (Below w.heap.size w w'))
     case atStart => exact ⟨(0), z4458, H', ⟨Nat.le_refl _⟩, ⟨rZ HO_3.out⟩, ⟨rZ HO_3.out⟩, ⟨z5acd⟩⟩
     case round =>
      clear H'
      try clear c1
      try clear p1
      try clear q1
      try clear hx1
      try clear c2
      try clear c2b0
      try clear p2
      try clear c3
      try clear c4
      try clear c6
      try clear p6
      try clear c7
      try clear c7b0
      try clear c9
      try clear c10
      try clear p10
      try clear q10
      try clear hx10
      try clear c28
      try clear hcz30_0 hcz30_1 hcz30_2 hcz30_3 hcz30_4 hcz30_5 hcz30_6 hcz30_7 hcz30_8
      try clear hcz34_0 hcz34_1 hcz34_2 hcz34_3 hcz34_4 hcz34_5 hcz34_6 hcz34_7 hcz34_8
      try clear hcz37_0 hcz37_1 hcz37_2 hcz37_3 hcz37_4 hcz37_5 hcz37_6 hcz37_7 hcz37_8
      try clear hfz30_0 hfz30_1 hfz30_2 hfz30_3 hfz30_4 hfz30_5 hfz30_6 hfz30_7 hfz30_8
      try clear hfz34_0 hfz34_1 hfz34_2 hfz34_3 hfz34_4 hfz34_5 hfz34_6 hfz34_7 hfz34_8
      try clear hfz37_0 hfz37_1 hfz37_2 hfz37_3 hfz37_4 hfz37_5 hfz37_6 hfz37_7 hfz37_8
      try clear hx101_0
      try clear hx101_1
      try clear hx101_2
      try clear hx101_3
      try clear hx101_4
      try clear hx101_5
      try clear hx101_6
      try clear hx101_7
      try clear hx101_8
      try clear hx104_0
      try clear hx104_1
      try clear hx104_2
      try clear hx104_3
      try clear hx104_4
      try clear hx104_5
      try clear hx104_6
      try clear hx104_7
      try clear hx104_8
      try clear p101
      try clear p104
      try clear q101
      try clear q104
      obtain ⟨x42_2, rfl, HA, HK2, HO_3, HO_40, HB⟩ := hrel
      cases gk with
      | zero => exact absurd HA.out (by simp [spec_GoodEntries.l1])
      | succ k2 =>
       have H := HA.out
       clear HA
       simp only [spec_GoodEntries.l1] at H
       by_cases c42 : x42_2 < (x3_1.length : Int)
       · rw [if_pos c42] at H
         have c42b0 : decide (x42_2 < (x3_1.length : Int)) = true := decide_eq_true c42
         clear c42
         replace H := ifS H; obtain ⟨c43, H⟩ := H
         have c43b0 : decide (0 ≤ x42_2) = true := decide_eq_true c43
         clear c43
         replace H := ifS H; obtain ⟨c44, H⟩ := H
         have c44b0 : decide (x42_2 < (x3_1.length : Int)) = true := decide_eq_true c44
         clear c44
         have c45b0 := eq_true (of_decide_eq_true z1200 : 0 ≤ x42_2)
         replace H := ifS H; obtain ⟨c46, H⟩ := H
         have c46b0 := eq_true c46
         have c46b1 : decide (x42_2 ≤ (x3_1.length : Int)) = true := decide_eq_true c46
         clear c46
         obtain ⟨y113, hy113⟩ : ∃ y_ : List Int, y_ = (x3_1.take (x42_2 : Int).toNat) := ⟨_, rfl⟩
         first | (replace H := bindS H; rw [← hy113] at H; try dsimp only at H) | rw [← hy113] at H
         have Ny113 := aM hy113
         clear hy113
         have H' := aM H
         clear H
         have p112 : 0 ≤ (x42_2 : Int) := of_decide_eq_true z1200
         have q112 : x42_2 < (x3_1.length : Int) := of_decide_eq_true z1200
         obtain ⟨ad112, e112, hx112_0⟩ := Kd.at_int (Kd.R_reads' HO_40.out).2.2 x42_2 p112 q112
         cases e112
         replace p112 := eq_true p112
         replace q112 := eq_true q112
         have q47 : (x42_2 : Int) ≤ ((x3_1.length : Int) : Int) := of_decide_eq_true z1200
         obtain ⟨i047, hi047, _, hsz47, _⟩ := info_parts info3
         have hroom47 : x3_1.length ≤ co41 := (Kd.R_reads' HO_3.out).2.1
         have hC47 : Kd.C (Kd.int .i64) _ (some ad112) x3_1.length x3_1 := (Kd.R_reads' HO_3.out).2.2
         have hcut47 := cut_to (P := Try.prog) 24 3 .i64 Try.underlying24 hi047 (some ad112) x3_1.length co41 x42_2 (of_decide_eq_true z1200) q47 hroom47
         have hr47 := Kd.C_take (m := (x42_2 : Int).toNat) hC47 (by omega)
         have hy47 : y113.length = (x42_2 : Int).toNat := (by rw [Ny113.out, List.length_take]; omega)
         rw [← Ny113.out] at hr47
         rw [← hy47] at hcut47
         have HR116 := aM hr47
         have HC116 := aM (show y113.length ≤ co41 from by omega)
         clear hr47 hC47 hroom47 hi047 hsz47
         have KY47 := aM hy47
         clear hy47
         have KL47 := aM (show (x42_2 : Int).toNat ≤ x3_1.length from by omega)
         replace q47 := eq_true q47
         go_wp2
         go_loopg [51] k2 (fun kq v51 w' => ∃ (x51_3 : Int), v51 = .int .i64 x51_3 ∧ Aside0 (spec_GoodEntries.l2 kq x3_1 (rd x3_1 x42_2) x3_1 (x3_1.length : Int) x42_2 y113 (y113.length : Int) x51_3 = some r) ∧ Aside0 (kq ≤ k2) ∧ Aside0 (Kd.R (Kd.int .i64) 3 w' w.heap.size (fun _ => True) (.slice (some ad112) x3_1.length co41) x3_1) ∧ Aside0 (Kd.R (Kd.int .i64) 3 w' w.heap.size (fun _ => True) (.slice (some ad112) x3_1.length co41) x3_1) ∧ Aside0 (Kd.C (Kd.int .i64) w' (some ad112) y113.length y113) ∧ Aside0 (Below w.heap.size w w'))
         case atStart => exact ⟨(0), z4458, H', ⟨Nat.le_refl _⟩, ⟨rZ HO_3.out⟩, ⟨rZ HO_40.out⟩, ⟨by repeat (first | (with_reducible exact HR116.out) | (with_reducible refine Kd.C_alloc ?_ _) | (with_reducible refine Kd.C_drewN ?_ _) | (with_reducible refine Kd.C_drew ?_) | exact HR116.out)⟩, ⟨z5acd⟩⟩
         case round =>
          clear H'
          try clear c1
          try clear p1
          try clear q1
          try clear hx1
          try clear c2
          try clear c2b0
          try clear p2
          try clear c3
          try clear c4
          try clear q4
          try clear c6
          try clear p6
          try clear c7
          try clear c7b0
          try clear c9
          try clear c10
          try clear p10
          try clear q10
          try clear hx10
          try clear p11
          try clear q11
          try clear hx11
          try clear c28
          try clear c42
          try clear c42b0
          try clear c43
          try clear c43b0
          try clear c44
          try clear c44b0
          try clear c45
          try clear c45b0
          try clear c46
          try clear c46b0
          try clear c46b1
          try clear q47
          try clear hcz30_0 hcz30_1 hcz30_2 hcz30_3 hcz30_4 hcz30_5 hcz30_6 hcz30_7 hcz30_8
          try clear hcz34_0 hcz34_1 hcz34_2 hcz34_3 hcz34_4 hcz34_5 hcz34_6 hcz34_7 hcz34_8
          try clear hcz37_0 hcz37_1 hcz37_2 hcz37_3 hcz37_4 hcz37_5 hcz37_6 hcz37_7 hcz37_8
          try clear hfz30_0 hfz30_1 hfz30_2 hfz30_3 hfz30_4 hfz30_5 hfz30_6 hfz30_7 hfz30_8
          try clear hfz34_0 hfz34_1 hfz34_2 hfz34_3 hfz34_4 hfz34_5 hfz34_6 hfz34_7 hfz34_8
          try clear hfz37_0 hfz37_1 hfz37_2 hfz37_3 hfz37_4 hfz37_5 hfz37_6 hfz37_7 hfz37_8
          try clear hx101_0
          try clear hx101_1
          try clear hx101_2
          try clear hx101_3
          try clear hx101_4
          try clear hx101_5
          try clear hx101_6
          try clear hx101_7
          try clear hx101_8
          try clear hx104_0
          try clear hx104_1
          try clear hx104_2
          try clear hx104_3
          try clear hx104_4
          try clear hx104_5
          try clear hx104_6
          try clear hx104_7
          try clear hx104_8
          try clear hx112_0
          try clear p1
          try clear p10
          try clear p101
          try clear p104
          try clear p112
          try clear p2
          try clear p6
          try clear q1
          try clear q10
          try clear q101
          try clear q104
          try clear q112
          try clear q47
          obtain ⟨x51_3, rfl, HA, HK3, HO_3, HO_40, HR116, HB⟩ := hrel
          cases gk with
          | zero => exact absurd HA.out (by simp [spec_GoodEntries.l2])
          | succ k3 =>
           have H := HA.out
           clear HA
           simp only [spec_GoodEntries.l2] at H
           by_cases c48 : x51_3 < (y113.length : Int)
           · rw [if_pos c48] at H
             have c48b0 : decide (x51_3 < (y113.length : Int)) = true := decide_eq_true c48
             clear c48
             replace H := ifS H; obtain ⟨c49, H⟩ := H
             have c49b0 : decide (0 ≤ x51_3) = true := decide_eq_true c49
             clear c49
             replace H := ifS H; obtain ⟨c50, H⟩ := H
             have c50b0 : decide (x51_3 < (y113.length : Int)) = true := decide_eq_true c50
             clear c50
             by_cases c51 : (rd y113 x51_3) = (rd x3_1 x42_2)
             · rw [if_pos c51] at H
               have c51b0 : ((rd y113 x51_3) == (rd x3_1 x42_2)) = true := beq_iff_eq.mpr c51
               have c51b1 : ((rd y113 x51_3) != (rd x3_1 x42_2)) = false := bne_eq_false_iff_eq.mpr c51
               clear c51
               obtain rfl := Option.some.inj H
               have p117 : 0 ≤ (x51_3 : Int) := of_decide_eq_true z1200
               have q117 : x51_3 < (y113.length : Int) := of_decide_eq_true z1200
               obtain ⟨ad117, e117, hx117_0⟩ := Kd.at_int HR116.out x51_3 p117 q117
               obtain rfl : ad112 = ad117 := (by injection e117)
               try replace hx117_0 := (HB.out.cell (World.block_lt_of_cell? w _ hx117_0)).trans hx117_0
               replace p117 := eq_true p117
               replace q117 := eq_true q117
               go_wp2
               go_ret
               exact ⟨z674d, z5acd⟩
             · rw [if_neg c51] at H
               have c51b0 : ((rd y113 x51_3) == (rd x3_1 x42_2)) = false := beq_eq_false_iff_ne.mpr c51
               have c51b1 : ((rd y113 x51_3) != (rd x3_1 x42_2)) = true := bne_iff_ne.mpr c51
               have H' := aM H
               clear H
               have p117 : 0 ≤ (x51_3 : Int) := of_decide_eq_true z1200
               have q117 : x51_3 < (y113.length : Int) := of_decide_eq_true z1200
               obtain ⟨ad117, e117, hx117_0⟩ := Kd.at_int HR116.out x51_3 p117 q117
               obtain rfl : ad112 = ad117 := (by injection e117)
               try replace hx117_0 := (HB.out.cell (World.block_lt_of_cell? w _ hx117_0)).trans hx117_0
               replace p117 := eq_true p117
               replace q117 := eq_true q117
               go_wp2
               go_roundg k3
               case measure => have := HK1.out; have := HK2.out; have := HK3.out; omega
               case rel => exact ⟨(wrap64 (x51_3 + 1)), z4458, H', ⟨by have := HK1.out; have := HK2.out; have := HK3.out; omega⟩, ⟨rZ HO_3.out⟩, ⟨rZ HO_40.out⟩, ⟨by repeat (first | (with_reducible exact HR116.out) | (with_reducible refine Kd.C_alloc ?_ _) | (with_reducible refine Kd.C_drewN ?_ _) | (with_reducible refine Kd.C_drew ?_) | exact HR116.out)⟩, ⟨z5acd⟩⟩
           · rw [if_neg c48] at H
             have c48b0 : decide (x51_3 < (y113.length : Int)) = false := decide_eq_false c48
             clear c48
             have H' := aM H
             clear H
             go_wp2
             go_roundg k3
             case measure => have := HK1.out; have := HK2.out; have := HK3.out; omega
             case rel => exact ⟨(wrap64 (x42_2 + 1)), z4458, H', ⟨by have := HK1.out; have := HK2.out; have := HK3.out; omega⟩, ⟨rZ HO_3.out⟩, ⟨rZ HO_40.out⟩, ⟨z5acd⟩⟩
       · rw [if_neg c42] at H
         have c42b0 : decide (x42_2 < (x3_1.length : Int)) = false := decide_eq_false c42
         clear c42
         obtain rfl := Option.some.inj H
         go_wp2
         go_ret
         exact ⟨z674d, z5acd⟩

end Go.Proofs.Ytdkokfnnebdppaa.P

-- written by a program of this session's (wip/pp)
namespace Go.Proofs.Ytdkokfnnebdppaa.P
open Go.RowKit Go.Proofs.YtdkokfnnebdppaaW.PrintWords Go.Proofs.YtdkokfnnebdppaaW.PrintLast Go.Proofs.YtdkokfnnebdppaaW.PrintMore
attribute [local go_sem] max2_int min2_int max_two min_two max_three min_three max_four min_four str_geq str_gtr str_leq   -- for this text's walks alone
set_option linter.unusedVariables false
set_option linter.unusedSimpArgs false

/-! ### spec_l4Zero: function 66 -/
def spec_l4Zero.f  : Option (Int × Int × Int × Int × List Int × Bool) := if 8 ≤ 35184372088832 then (some (0, 0, 0, 0, (List.replicate 8 0), false)) else (none)
set_option maxHeartbeats 8000000 in
set_option maxRecDepth 100000 in
theorem spec_l4Zero.calls  (r1 : Int) (r2 : Int) (r3 : Int) (r4 : Int) (r5 : List Int) (r6 : Bool) (w : World) (h : spec_l4Zero.f  = some (r1, r2, r3, r4, r5, r6)) :
 Calls Try.prog 66 #[] w fun e w' => ∃ v4_ : Value, e = .returned (.agg #[.int .i64 r1, .int .i64 r2, .int .i64 r3, .int .i64 r4, v4_, .bool r6]) ∧ Kd.R (Kd.int .i64) 3 w' w.heap.size (fun _ => True) v4_ r5 ∧ Below w.heap.size w w' := by
 have hu26 := Try.underlying26
 have HB := aM (Below.refl w.heap.size w)
 have H : (if 8 ≤ 35184372088832 then (some (0, 0, 0, 0, (List.replicate 8 0), false)) else (none)) = some (r1, r2, r3, r4, r5, r6) := h
 clear h
 by_cases c1 : 8 ≤ 35184372088832
 · rw [if_pos c1] at H
   have c1b0 := eq_true c1
   have c1b1 : decide (8 ≤ 35184372088832) = true := decide_eq_true c1
   clear c1
   obtain ⟨y102, hy102⟩ : ∃ y_ : List Int, y_ = (List.replicate 8 0) := ⟨_, rfl⟩
   replace H : (some (0, 0, 0, 0, y102, false)) = some (r1, r2, r3, r4, r5, r6) := by first | (rw [hy102]; with_reducible exact H) | (have H2_ := (Option.bind_some _ _).symm.trans H; rw [hy102]; with_reducible exact H2_) | (have H2_ := (Option.bind_some _ _).symm.trans H; with_reducible exact H2_) | with_reducible exact H | (rw [hy102]; exact H) | exact H
   have Ny102 := aM hy102
   clear hy102
   simp only [Option.some.injEq, Prod.mk.injEq] at H
   obtain ⟨rfl, rfl, rfl, rfl, rfl, rfl⟩ := H
   go_enter Try.func66, Try.ntmps66
   go_wp2_with (first | ((with_reducible refine gate_dst (N := 0) rfl ?_); refine box_event ?hg (N := 0) ?hd (cs := #[.int .i64 0, .int .i64 0, .int .i64 0, .int .i64 0, .slice none 0 0, .bool false]) (t := 26) ?hr ?_; (case hd => rfl); (case hg => rfl); (case hr => first | (go_simp; done) | (go_simp; rfl)); intro gb101 hg w2 hbox hb; have _ := aM (below_step hbZ hb); have _ := aM hbox; have _ := szZ hg; have _ := szZ hg; clear HB; rename_i HB BK101 GW101 GE101; clear hb hbox hg) | ((with_reducible refine gate_dst (N := 1) rfl ?_); refine Kd.R_make (Kd.int .i64) _ 3 rfl (N := 1) rfl 24 _ _ rfl 8 rfl rfl Try.underlying24 (.int .i64 0) 8 info3 rfl (by decide) (by omega) 0 (ok := fun _ => True) (okp := fun _ => True) rfl (fun _ hk => hk) trivial (by omega) (by omega) (Below.refl _ _) (Nat.le_refl _) ?_; intro v103 w3 ho4 hb hg_ hnew_; clear hg_ hnew_; (first | rw [← Ny102.out] at ho4 | (simp only [Int.reduceToNat] at ho4; rw [← Ny102.out] at ho4)); have _ := aM (Kd.R_lower ho4 (below_size hbZ)); have _ := bB gb101 hb; have _ := aM (below_step hbZ hb); clear BK101 HB; rename_i HO104 BK101 HB; clear hb ho4; obtain ⟨Ao5, co5, eo5⟩ := Kd.R_slice HO104.out; subst eo5; obtain ⟨hcz6_0, hcz6_1, hcz6_2, hcz6_3, hcz6_4, hcz6_5, hfz6_0, hfz6_1, hfz6_2, hfz6_3, hfz6_4, hfz6_5⟩ := cellsZ6 BK101.out))
   refine bodyPost_ret (results_cell_row rfl _ _ gb101 26 #[.int .i64 0, .int .i64 0, .int .i64 0, .int .i64 0, .slice Ao5 y102.length co5, .bool false] (0, 0) _ rfl bkZ Try.underlying26 rfl (by kernel_rfl)) rfl ?_
   exact ⟨_, z674d, by (with_reducible repeat (first | apply Kd.R_alloc | apply Kd.R_drewN | apply Kd.R_drew)); exact Kd.R_mono (Kd.R_far (p := ⟨gb101, 5, none⟩) (Kd.R_far (p := ⟨gb101, 4, none⟩) (Kd.R_far (p := ⟨gb101, 3, none⟩) (Kd.R_far (p := ⟨gb101, 2, none⟩) (Kd.R_far (p := ⟨gb101, 1, none⟩) (Kd.R_far (p := ⟨gb101, 0, none⟩) (Kd.R_types HO104.out BK101.out (by decide)) (fun _ hk => hk.2) (.int .i64 0)) (fun _ hk => hk.2) (.int .i64 0)) (fun _ hk => hk.2) (.int .i64 0)) (fun _ hk => hk.2) (.int .i64 0)) (fun _ hk => hk.2) (.slice Ao5 y102.length co5)) (fun _ hk => hk.2) (.bool false)) (fun _ hk => trivial), zcb41⟩
 · rw [if_neg c1] at H
   exact absurd H (by simp)

end Go.Proofs.Ytdkokfnnebdppaa.P

-- written by a program of this session's (wip/pp)
namespace Go.Proofs.Ytdkokfnnebdppaa.P
open Go.RowKit Go.Proofs.YtdkokfnnebdppaaW.PrintWords Go.Proofs.YtdkokfnnebdppaaW.PrintLast Go.Proofs.YtdkokfnnebdppaaW.PrintMore
attribute [local go_sem] max2_int min2_int max_two min_two max_three min_three max_four min_four str_geq str_gtr str_leq   -- for this text's walks alone
set_option linter.unusedVariables false
set_option linter.unusedSimpArgs false

/-! ### spec_l4Own: function 67 -/
def spec_l4Own.f (a0_0 : Int) (a0_1 : Int) (a0_2 : Int) (a0_3 : Int) (l0_4 : List Int) (a0_5 : Bool) : Option (Int × Int × Int × Int × List Int × Bool) := (some (([] : List Int) : List Int)).bind fun y103 => (if y103.length + l0_4.length < 17592186044416 then (some (a0_0, a0_1, a0_2, a0_3, (y103 ++ l0_4), a0_5)) else (none))
set_option maxHeartbeats 8000000 in
set_option maxRecDepth 100000 in
theorem spec_l4Own.calls (a0_0 : Int) (a0_1 : Int) (a0_2 : Int) (a0_3 : Int) (A0_4 : Option Addr) (c0_4 : Nat) (l0_4 : List Int) (a0_5 : Bool) (r1 : Int) (r2 : Int) (r3 : Int) (r4 : Int) (r5 : List Int) (r6 : Bool) (w : World) (hr0_4 : Kd.C (Kd.int .i64) w A0_4 l0_4.length l0_4) (hc0_4 : l0_4.length ≤ c0_4) (h : spec_l4Own.f a0_0 a0_1 a0_2 a0_3 l0_4 a0_5 = some (r1, r2, r3, r4, r5, r6)) :
 Calls Try.prog 67 #[.agg #[.int .i64 a0_0, .int .i64 a0_1, .int .i64 a0_2, .int .i64 a0_3, .slice A0_4 l0_4.length c0_4, .bool a0_5]] w fun e w' => ∃ v4_ : Value, e = .returned (.agg #[.int .i64 r1, .int .i64 r2, .int .i64 r3, .int .i64 r4, v4_, .bool r6]) ∧ Kd.R (Kd.int .i64) 3 w' w.heap.size (fun _ => True) v4_ r5 ∧ Below w.heap.size w w' := by
 have hu26 := Try.underlying26
 have HR0_4 := aM hr0_4
 have HC0_4 := aM hc0_4
 clear hr0_4 hc0_4
 have HB := aM (Below.refl w.heap.size w)
 have H : ((some (([] : List Int) : List Int)).bind fun y103 => (if y103.length + l0_4.length < 17592186044416 then (some (a0_0, a0_1, a0_2, a0_3, (y103 ++ l0_4), a0_5)) else (none))) = some (r1, r2, r3, r4, r5, r6) := h
 clear h
 obtain ⟨y103, hy103⟩ : ∃ y_ : List Int, y_ = (([] : List Int)) := ⟨_, rfl⟩
 first | (replace H := bindS H; rw [← hy103] at H; try dsimp only at H) | rw [← hy103] at H
 have Ny103 := aM hy103
 clear hy103
 replace H := ifS H; obtain ⟨c2, H⟩ := H
 have LMc2 := aM c2
 clear c2
 obtain ⟨y106, hy106⟩ : ∃ y_ : List Int, y_ = (y103 ++ l0_4) := ⟨_, rfl⟩
 first | (replace H := bindS H; rw [← hy106] at H; try dsimp only at H) | rw [← hy106] at H
 have Ny106 := aM hy106
 clear hy106
 simp only [Option.some.injEq, Prod.mk.injEq] at H
 obtain ⟨rfl, rfl, rfl, rfl, rfl, rfl⟩ := H
 go_enter Try.func67, Try.ntmps67
 go_wp2_with (first | ((with_reducible refine gate_dst (N := 1) rfl ?_); refine box_event ?hg (N := 1) ?hd (cs := #[.int .i64 a0_0, .int .i64 a0_1, .int .i64 a0_2, .int .i64 a0_3, .slice A0_4 l0_4.length c0_4, .bool a0_5]) (t := 26) ?hr ?_; (case hd => rfl); (case hg => rfl); (case hr => first | (go_simp; done) | (go_simp; rfl)); intro gb101 hg w3 hbox hb; have _ := aM (below_step hbZ hb); have _ := aM hbox; have _ := szZ hg; have _ := szZ hg; clear HB; rename_i HB BK101 GW101 GE101; clear hb hbox hg) | ((with_reducible refine gate_dst (N := 2) rfl ?_); refine box_event ?hg (N := 2) ?hd (cs := #[.int .i64 0, .int .i64 0, .int .i64 0, .int .i64 0, .slice none 0 0, .bool false]) (t := 26) ?hr ?_; (case hd => rfl); (case hg => rfl); (case hr => first | (go_simp; done) | (go_simp; rfl)); intro gb102 hg w4 hbox hb; have _ := bB gb101 hb; have _ := aM (below_step hbZ hb); have _ := aM hbox; have _ := szZ hg; have _ := szZ hg; have ⟨_, _⟩ := nbB gb101 hg; clear BK101 HB; rename_i BK101 HB BK102 GW102 GE102 NB101_102 NB102_101; clear hb hbox hg) | ((with_reducible refine gate_dst (N := 3) rfl ?_); refine Kd.R_lit (Kd.int .i64) _ 3 ?hg (N := 3) ?hd (xs := ([] : List Int)) (inner := []) (ok := fun _ => True) (okp := fun _ => True) ?hr ?hp (fun _ hk => hk) trivial (Below.refl _ _) (Nat.le_refl _) (by simp) ?_; (case hd => rfl); (case hg => rfl); (case hr => first | (go_simp; done) | (go_simp; rfl)); (case hp => exact (Reps.none _ _)); intro v104 w5 ho6 hb hg_ hnew_; clear hg_ hnew_; (first | rw [← Ny103.out] at ho6 | (simp only [Int.reduceToNat] at ho6; rw [← Ny103.out] at ho6)); have _ := aM (Kd.R_lower ho6 (below_size hbZ)); have _ := bB gb101 hb; have _ := bB gb102 hb; have _ := aM (below_step hbZ hb); clear BK101 BK102 HB; rename_i HO105 BK101 BK102 HB; clear hb ho6; have hnb7 := NB101_102.out; have hnc7 := NB102_101.out; obtain ⟨hcz8_0, hcz8_1, hcz8_2, hcz8_3, hcz8_4, hcz8_5, hfz8_0, hfz8_1, hfz8_2, hfz8_3, hfz8_4, hfz8_5⟩ := cellsZ6 BK101.out) | ((with_reducible refine gate_builtin (b := .append) (xs := #[.tmp 3, .tmp 5]) rfl ?_); at_builtin; refine Kd.R_append_rows (Kd.int .i64) (w0 := w) w.heap.size rfl (.tmp 3) (.tmp 5) 24 3 (.int .i64 0) 8 rfl Try.underlying24 info3 rfl (by decide) (by omega) v104 y103 l0_4 _ _ _ (fun _ => True) (fun _ => False) rfl rfl ?aO ?aR (fun _ _ h => h) (fun _ h => h.elim) ?aF ?aB ?aS ?aL ?_; (case aR => repeat (first | exact (Kd.C_below HR0_4.out HB.out) | (with_reducible refine Kd.C_alloc ?_ _) | (with_reducible refine Kd.C_drewN ?_ _) | (with_reducible refine Kd.C_drew ?_))); (case aB => exact hbZ); (case aF => exact (fun _ _ => trivial)); (case aO => exact (rZ HO105.out)); (case aS => exact (below_size hbZ)); (case aL => have := LMc2.out; omega); intro v107 w9 ho hb hg hat; rw [← Ny106.out] at ho; have _ := aM (blk_grown (g := gb101) bkZ hg (Kd.R_ne HO105.out BK101.out (by decide))); have _ := aM (blk_grown (g := gb102) bkZ hg (Kd.R_ne HO105.out BK102.out (by decide))); have _ := aM hb; have _ := aM ho; clear BK101 BK102 HB HO105; rename_i BK101 BK102 HB HO108; clear ho hb hg hat; obtain ⟨Ao10, co10, eo10⟩ := Kd.R_slice HO108.out; subst eo10; obtain ⟨hcz11_0, hcz11_1, hcz11_2, hcz11_3, hcz11_4, hcz11_5, hfz11_0, hfz11_1, hfz11_2, hfz11_3, hfz11_4, hfz11_5⟩ := cellsZ6 BK101.out; obtain ⟨hcz12_0, hcz12_1, hcz12_2, hcz12_3, hcz12_4, hcz12_5, hfz12_0, hfz12_1, hfz12_2, hfz12_3, hfz12_4, hfz12_5⟩ := cellsZ6 BK102.out))
 refine bodyPost_ret (results_cell_row rfl _ _ gb102 26 #[.int .i64 a0_0, .int .i64 a0_1, .int .i64 a0_2, .int .i64 a0_3, .slice Ao10 y106.length co10, .bool a0_5] (0, 0) _ rfl bkZ Try.underlying26 rfl (by kernel_rfl)) rfl ?_
 exact ⟨_, z674d, by (with_reducible repeat (first | apply Kd.R_alloc | apply Kd.R_drewN | apply Kd.R_drew)); exact Kd.R_mono (Kd.R_far (p := ⟨gb102, 5, none⟩) (Kd.R_far (p := ⟨gb102, 4, none⟩) (Kd.R_far (p := ⟨gb102, 3, none⟩) (Kd.R_far (p := ⟨gb102, 2, none⟩) (Kd.R_far (p := ⟨gb102, 1, none⟩) (Kd.R_far (p := ⟨gb102, 0, none⟩) (Kd.R_far (p := ⟨gb101, 4, none⟩) (Kd.R_types (Kd.R_types HO108.out BK101.out (by decide)) BK102.out (by decide)) (fun _ hk => hk.1.2) (.slice Ao10 y106.length co10)) (fun _ hk => hk.2) (.int .i64 a0_0)) (fun _ hk => hk.2) (.int .i64 a0_1)) (fun _ hk => hk.2) (.int .i64 a0_2)) (fun _ hk => hk.2) (.int .i64 a0_3)) (fun _ hk => hk.2) (.slice Ao10 y106.length co10)) (fun _ hk => hk.2) (.bool a0_5)) (fun _ hk => trivial), zcb41⟩
end Go.Proofs.Ytdkokfnnebdppaa.P

-- written by a program of this session's (wip/pp)
namespace Go.Proofs.Ytdkokfnnebdppaa.P
open Go.RowKit Go.Proofs.YtdkokfnnebdppaaW.PrintWords Go.Proofs.YtdkokfnnebdppaaW.PrintLast Go.Proofs.YtdkokfnnebdppaaW.PrintMore
attribute [local go_sem] max2_int min2_int max_two min_two max_three min_three max_four min_four str_geq str_gtr str_leq   -- for this text's walks alone
set_option linter.unusedVariables false
set_option linter.unusedSimpArgs false

/-! ### spec_l4Join: function 68 -/
mutual
def spec_l4Join.j0 : Nat → Int → Int → Int → Int → List Int → Bool → Int → Int → Int → Int → List Int → Bool → Int → Int → Int → Int → Bool → Option (Int × Int × Int × Int × List Int × Bool)
 | 0, _, _, _, _, _, _, _, _, _, _, _, _, _, _, _, _, _ => none
 | k + 1, x90003000, x90003001, x90003002, x90003003, x90003004, x90003005, x90004000, x90004001, x90004002, x90004003, x90004004, x90004005, x90006000, x90006001, x90006002, x90006003, x90006005 => if x90004002 < x90006002 then (spec_l4Join.j1 k x90003000 x90003001 x90003002 x90003003 x90003004 x90003005 x90004000 x90004001 x90004002 x90004003 x90004004 x90004005 x90006000 x90006001 x90004002 x90006003 x90006005) else (spec_l4Join.j1 k x90003000 x90003001 x90003002 x90003003 x90003004 x90003005 x90004000 x90004001 x90004002 x90004003 x90004004 x90004005 x90006000 x90006001 x90006002 x90006003 x90006005)
def spec_l4Join.j1 : Nat → Int → Int → Int → Int → List Int → Bool → Int → Int → Int → Int → List Int → Bool → Int → Int → Int → Int → Bool → Option (Int × Int × Int × Int × List Int × Bool)
 | 0, _, _, _, _, _, _, _, _, _, _, _, _, _, _, _, _, _ => none
 | k + 1, x90003000, x90003001, x90003002, x90003003, x90003004, x90003005, x90004000, x90004001, x90004002, x90004003, x90004004, x90004005, x90006000, x90006001, x90006002, x90006003, x90006005 => if x90004003 > x90006003 then (spec_l4Join.j2 k x90003000 x90003001 x90003002 x90003003 x90003004 x90003005 x90004000 x90004001 x90004002 x90004003 x90004004 x90004005 x90006000 x90006001 x90006002 x90004003 x90006005) else (spec_l4Join.j2 k x90003000 x90003001 x90003002 x90003003 x90003004 x90003005 x90004000 x90004001 x90004002 x90004003 x90004004 x90004005 x90006000 x90006001 x90006002 x90006003 x90006005)
def spec_l4Join.j2 : Nat → Int → Int → Int → Int → List Int → Bool → Int → Int → Int → Int → List Int → Bool → Int → Int → Int → Int → Bool → Option (Int × Int × Int × Int × List Int × Bool)
 | 0, _, _, _, _, _, _, _, _, _, _, _, _, _, _, _, _, _ => none
 | k + 1, x90003000, x90003001, x90003002, x90003003, x90003004, x90003005, x90004000, x90004001, x90004002, x90004003, x90004004, x90004005, x90006000, x90006001, x90006002, x90006003, x90006005 => spec_l4Join.l0 k x90003004 (x90003004.length : Int) 0 x90004000 x90004001 x90004002 x90004003 x90004004 x90004005 x90006000 x90006001 x90006002 x90006003 ([] : List Int) x90006005
def spec_l4Join.l0 : Nat → List Int → Int → Int → Int → Int → Int → Int → List Int → Bool → Int → Int → Int → Int → List Int → Bool → Option (Int × Int × Int × Int × List Int × Bool)
 | 0, _, _, _, _, _, _, _, _, _, _, _, _, _, _, _ => none
 | k + 1, x62, x63, x64, x90004000, x90004001, x90004002, x90004003, x90004004, x90004005, x90006000, x90006001, x90006002, x90006003, x90006004, x90006005 => if x64 < x63 then (if 0 ≤ x64 then (if x64 < (x62.length : Int) then (if x64 < (x90004004.length : Int) then (if (wrap64 ((rd x62 x64) + (rd x90004004 x64))) > 1000000000 then (if x90006004.length < 17592186044416 then (spec_l4Join.l0 k x62 x63 (wrap64 (x64 + 1)) x90004000 x90004001 x90004002 x90004003 x90004004 x90004005 x90006000 x90006001 x90006002 x90006003 (x90006004 ++ [1000000000]) true) else (none)) else (if x90006004.length < 17592186044416 then (spec_l4Join.l0 k x62 x63 (wrap64 (x64 + 1)) x90004000 x90004001 x90004002 x90004003 x90004004 x90004005 x90006000 x90006001 x90006002 x90006003 (x90006004 ++ [wrap64 ((rd x62 x64) + (rd x90004004 x64))]) x90006005) else (none))) else (none)) else (none)) else (none)) else (if x90006005 = true then (some (x90006000, 0, x90006002, x90006003, x90006004, x90006005)) else (some (x90006000, x90006001, x90006002, x90006003, x90006004, x90006005)))
def spec_l4Join.j4 : Nat → Int → Int → Int → Int → List Int → Bool → Int → Int → Int → Int → List Int → Bool → Int → Int → Int → Int → Bool → Option (Int × Int × Int × Int × List Int × Bool)
 | 0, _, _, _, _, _, _, _, _, _, _, _, _, _, _, _, _, _ => none
 | k + 1, x90003000, x90003001, x90003002, x90003003, x90003004, x90003005, x90004000, x90004001, x90004002, x90004003, x90004004, x90004005, x90006000, x90006001, x90006002, x90006003, x90006005 => if x90004002 < x90006002 then (spec_l4Join.j5 k x90003000 x90003001 x90003002 x90003003 x90003004 x90003005 x90004000 x90004001 x90004002 x90004003 x90004004 x90004005 x90006000 x90006001 x90004002 x90006003 x90006005) else (spec_l4Join.j5 k x90003000 x90003001 x90003002 x90003003 x90003004 x90003005 x90004000 x90004001 x90004002 x90004003 x90004004 x90004005 x90006000 x90006001 x90006002 x90006003 x90006005)
def spec_l4Join.j5 : Nat → Int → Int → Int → Int → List Int → Bool → Int → Int → Int → Int → List Int → Bool → Int → Int → Int → Int → Bool → Option (Int × Int × Int × Int × List Int × Bool)
 | 0, _, _, _, _, _, _, _, _, _, _, _, _, _, _, _, _, _ => none
 | k + 1, x90003000, x90003001, x90003002, x90003003, x90003004, x90003005, x90004000, x90004001, x90004002, x90004003, x90004004, x90004005, x90006000, x90006001, x90006002, x90006003, x90006005 => if x90004003 > x90006003 then (spec_l4Join.j6 k x90003000 x90003001 x90003002 x90003003 x90003004 x90003005 x90004000 x90004001 x90004002 x90004003 x90004004 x90004005 x90006000 x90006001 x90006002 x90004003 x90006005) else (spec_l4Join.j6 k x90003000 x90003001 x90003002 x90003003 x90003004 x90003005 x90004000 x90004001 x90004002 x90004003 x90004004 x90004005 x90006000 x90006001 x90006002 x90006003 x90006005)
def spec_l4Join.j6 : Nat → Int → Int → Int → Int → List Int → Bool → Int → Int → Int → Int → List Int → Bool → Int → Int → Int → Int → Bool → Option (Int × Int × Int × Int × List Int × Bool)
 | 0, _, _, _, _, _, _, _, _, _, _, _, _, _, _, _, _, _ => none
 | k + 1, x90003000, x90003001, x90003002, x90003003, x90003004, x90003005, x90004000, x90004001, x90004002, x90004003, x90004004, x90004005, x90006000, x90006001, x90006002, x90006003, x90006005 => spec_l4Join.l0 k x90003004 (x90003004.length : Int) 0 x90004000 x90004001 x90004002 x90004003 x90004004 x90004005 x90006000 x90006001 x90006002 x90006003 ([] : List Int) x90006005
end
def spec_l4Join.f (k : Nat) (a0_0 : Int) (a0_1 : Int) (a0_2 : Int) (a0_3 : Int) (l0_4 : List Int) (a0_5 : Bool) (a1_0 : Int) (a1_1 : Int) (a1_2 : Int) (a1_3 : Int) (l1_4 : List Int) (a1_5 : Bool) : Option (Int × Int × Int × Int × List Int × Bool) := if a0_0 = 0 then ((spec_l4Own.f a1_0 a1_1 a1_2 a1_3 l1_4 a1_5).bind fun bt104 => (some (bt104.1, bt104.2.1, bt104.2.2.1, bt104.2.2.2.1, bt104.2.2.2.2.1, bt104.2.2.2.2.2))) else (if a1_0 = 0 then ((spec_l4Own.f a0_0 a0_1 a0_2 a0_3 l0_4 a0_5).bind fun bt112 => (some (bt112.1, bt112.2.1, bt112.2.2.1, bt112.2.2.2.1, bt112.2.2.2.2.1, bt112.2.2.2.2.2))) else (if a0_5 = true then (if (wrap64 (a0_0 + a1_0)) > 1000000000 then (spec_l4Join.j0 k a0_0 a0_1 a0_2 a0_3 l0_4 a0_5 a1_0 a1_1 a1_2 a1_3 l1_4 a1_5 1000000000 (wrap64 (a0_1 + a1_1)) a0_2 a0_3 true) else (spec_l4Join.j0 k a0_0 a0_1 a0_2 a0_3 l0_4 a0_5 a1_0 a1_1 a1_2 a1_3 l1_4 a1_5 (wrap64 (a0_0 + a1_0)) (wrap64 (a0_1 + a1_1)) a0_2 a0_3 true)) else (if (wrap64 (a0_0 + a1_0)) > 1000000000 then (spec_l4Join.j4 k a0_0 a0_1 a0_2 a0_3 l0_4 a0_5 a1_0 a1_1 a1_2 a1_3 l1_4 a1_5 1000000000 (wrap64 (a0_1 + a1_1)) a0_2 a0_3 true) else (spec_l4Join.j4 k a0_0 a0_1 a0_2 a0_3 l0_4 a0_5 a1_0 a1_1 a1_2 a1_3 l1_4 a1_5 (wrap64 (a0_0 + a1_0)) (wrap64 (a0_1 + a1_1)) a0_2 a0_3 a1_5))))
theorem spec_l4Join.mono_l : ∀ k, (∀ y0 y1 y2 y3 y4 y5 y6 y7 y8 y9 y10 y11 y12 y13 y14 y15 y16, LeO (spec_l4Join.j0 k y0 y1 y2 y3 y4 y5 y6 y7 y8 y9 y10 y11 y12 y13 y14 y15 y16) (spec_l4Join.j0 (k + 1) y0 y1 y2 y3 y4 y5 y6 y7 y8 y9 y10 y11 y12 y13 y14 y15 y16)) ∧ (∀ y0 y1 y2 y3 y4 y5 y6 y7 y8 y9 y10 y11 y12 y13 y14 y15 y16, LeO (spec_l4Join.j1 k y0 y1 y2 y3 y4 y5 y6 y7 y8 y9 y10 y11 y12 y13 y14 y15 y16) (spec_l4Join.j1 (k + 1) y0 y1 y2 y3 y4 y5 y6 y7 y8 y9 y10 y11 y12 y13 y14 y15 y16)) ∧ (∀ y0 y1 y2 y3 y4 y5 y6 y7 y8 y9 y10 y11 y12 y13 y14 y15 y16, LeO (spec_l4Join.j2 k y0 y1 y2 y3 y4 y5 y6 y7 y8 y9 y10 y11 y12 y13 y14 y15 y16) (spec_l4Join.j2 (k + 1) y0 y1 y2 y3 y4 y5 y6 y7 y8 y9 y10 y11 y12 y13 y14 y15 y16)) ∧ (∀ y0 y1 y2 y3 y4 y5 y6 y7 y8 y9 y10 y11 y12 y13 y14, LeO (spec_l4Join.l0 k y0 y1 y2 y3 y4 y5 y6 y7 y8 y9 y10 y11 y12 y13 y14) (spec_l4Join.l0 (k + 1) y0 y1 y2 y3 y4 y5 y6 y7 y8 y9 y10 y11 y12 y13 y14)) ∧ (∀ y0 y1 y2 y3 y4 y5 y6 y7 y8 y9 y10 y11 y12 y13 y14 y15 y16, LeO (spec_l4Join.j4 k y0 y1 y2 y3 y4 y5 y6 y7 y8 y9 y10 y11 y12 y13 y14 y15 y16) (spec_l4Join.j4 (k + 1) y0 y1 y2 y3 y4 y5 y6 y7 y8 y9 y10 y11 y12 y13 y14 y15 y16)) ∧ (∀ y0 y1 y2 y3 y4 y5 y6 y7 y8 y9 y10 y11 y12 y13 y14 y15 y16, LeO (spec_l4Join.j5 k y0 y1 y2 y3 y4 y5 y6 y7 y8 y9 y10 y11 y12 y13 y14 y15 y16) (spec_l4Join.j5 (k + 1) y0 y1 y2 y3 y4 y5 y6 y7 y8 y9 y10 y11 y12 y13 y14 y15 y16)) ∧ (∀ y0 y1 y2 y3 y4 y5 y6 y7 y8 y9 y10 y11 y12 y13 y14 y15 y16, LeO (spec_l4Join.j6 k y0 y1 y2 y3 y4 y5 y6 y7 y8 y9 y10 y11 y12 y13 y14 y15 y16) (spec_l4Join.j6 (k + 1) y0 y1 y2 y3 y4 y5 y6 y7 y8 y9 y10 y11 y12 y13 y14 y15 y16))
 | 0 => ⟨fun _ _ _ _ _ _ _ _ _ _ _ _ _ _ _ _ _ r h => by simp [spec_l4Join.j0] at h, fun _ _ _ _ _ _ _ _ _ _ _ _ _ _ _ _ _ r h => by simp [spec_l4Join.j1] at h, fun _ _ _ _ _ _ _ _ _ _ _ _ _ _ _ _ _ r h => by simp [spec_l4Join.j2] at h, fun _ _ _ _ _ _ _ _ _ _ _ _ _ _ _ r h => by simp [spec_l4Join.l0] at h, fun _ _ _ _ _ _ _ _ _ _ _ _ _ _ _ _ _ r h => by simp [spec_l4Join.j4] at h, fun _ _ _ _ _ _ _ _ _ _ _ _ _ _ _ _ _ r h => by simp [spec_l4Join.j5] at h, fun _ _ _ _ _ _ _ _ _ _ _ _ _ _ _ _ _ r h => by simp [spec_l4Join.j6] at h⟩
 | k + 1 => by
  obtain ⟨ih0, ih1, ih2, ih3, ih4, ih5, ih6⟩ := spec_l4Join.mono_l k
  refine ⟨?_, ?_, ?_, ?_, ?_, ?_, ?_⟩
  · intro y0 y1 y2 y3 y4 y5 y6 y7 y8 y9 y10 y11 y12 y13 y14 y15 y16
    unfold spec_l4Join.j0
    repeat' first
     | (with_reducible first | exact ih0 .. | exact ih1 .. | exact ih2 .. | exact ih3 .. | exact ih4 .. | exact ih5 .. | exact ih6 .. | exact LeO.refl _ | exact LeO.none _ | refine LeO.ite ?_ ?_ | refine LeO.bind ?_ (fun _ => ?_))
     | exact LeO.none _
     | refine LeO.ite ?_ ?_
     | refine LeO.bind ?_ (fun _ => ?_)
  · intro y0 y1 y2 y3 y4 y5 y6 y7 y8 y9 y10 y11 y12 y13 y14 y15 y16
    unfold spec_l4Join.j1
    repeat' first
     | (with_reducible first | exact ih0 .. | exact ih1 .. | exact ih2 .. | exact ih3 .. | exact ih4 .. | exact ih5 .. | exact ih6 .. | exact LeO.refl _ | exact LeO.none _ | refine LeO.ite ?_ ?_ | refine LeO.bind ?_ (fun _ => ?_))
     | exact LeO.none _
     | refine LeO.ite ?_ ?_
     | refine LeO.bind ?_ (fun _ => ?_)
  · intro y0 y1 y2 y3 y4 y5 y6 y7 y8 y9 y10 y11 y12 y13 y14 y15 y16
    unfold spec_l4Join.j2
    repeat' first
     | (with_reducible first | exact ih0 .. | exact ih1 .. | exact ih2 .. | exact ih3 .. | exact ih4 .. | exact ih5 .. | exact ih6 .. | exact LeO.refl _ | exact LeO.none _ | refine LeO.ite ?_ ?_ | refine LeO.bind ?_ (fun _ => ?_))
     | exact LeO.none _
     | refine LeO.ite ?_ ?_
     | refine LeO.bind ?_ (fun _ => ?_)
  · intro y0 y1 y2 y3 y4 y5 y6 y7 y8 y9 y10 y11 y12 y13 y14
    unfold spec_l4Join.l0
    repeat' first
     | (with_reducible first | exact ih0 .. | exact ih1 .. | exact ih2 .. | exact ih3 .. | exact ih4 .. | exact ih5 .. | exact ih6 .. | exact LeO.refl _ | exact LeO.none _ | refine LeO.ite ?_ ?_ | refine LeO.bind ?_ (fun _ => ?_))
     | exact LeO.none _
     | refine LeO.ite ?_ ?_
     | refine LeO.bind ?_ (fun _ => ?_)
  · intro y0 y1 y2 y3 y4 y5 y6 y7 y8 y9 y10 y11 y12 y13 y14 y15 y16
    unfold spec_l4Join.j4
    repeat' first
     | (with_reducible first | exact ih0 .. | exact ih1 .. | exact ih2 .. | exact ih3 .. | exact ih4 .. | exact ih5 .. | exact ih6 .. | exact LeO.refl _ | exact LeO.none _ | refine LeO.ite ?_ ?_ | refine LeO.bind ?_ (fun _ => ?_))
     | exact LeO.none _
     | refine LeO.ite ?_ ?_
     | refine LeO.bind ?_ (fun _ => ?_)
  · intro y0 y1 y2 y3 y4 y5 y6 y7 y8 y9 y10 y11 y12 y13 y14 y15 y16
    unfold spec_l4Join.j5
    repeat' first
     | (with_reducible first | exact ih0 .. | exact ih1 .. | exact ih2 .. | exact ih3 .. | exact ih4 .. | exact ih5 .. | exact ih6 .. | exact LeO.refl _ | exact LeO.none _ | refine LeO.ite ?_ ?_ | refine LeO.bind ?_ (fun _ => ?_))
     | exact LeO.none _
     | refine LeO.ite ?_ ?_
     | refine LeO.bind ?_ (fun _ => ?_)
  · intro y0 y1 y2 y3 y4 y5 y6 y7 y8 y9 y10 y11 y12 y13 y14 y15 y16
    unfold spec_l4Join.j6
    repeat' first
     | (with_reducible first | exact ih0 .. | exact ih1 .. | exact ih2 .. | exact ih3 .. | exact ih4 .. | exact ih5 .. | exact ih6 .. | exact LeO.refl _ | exact LeO.none _ | refine LeO.ite ?_ ?_ | refine LeO.bind ?_ (fun _ => ?_))
     | exact LeO.none _
     | refine LeO.ite ?_ ?_
     | refine LeO.bind ?_ (fun _ => ?_)
theorem spec_l4Join.mono : ∀ a0 a1 a2 a3 a4 a5 a6 a7 a8 a9 a10 a11 k, LeO (spec_l4Join.f k a0 a1 a2 a3 a4 a5 a6 a7 a8 a9 a10 a11) (spec_l4Join.f (k + 1) a0 a1 a2 a3 a4 a5 a6 a7 a8 a9 a10 a11) := by
 intro a0 a1 a2 a3 a4 a5 a6 a7 a8 a9 a10 a11 k
 obtain ⟨ih0, ih1, ih2, ih3, ih4, ih5, ih6⟩ := spec_l4Join.mono_l k
 unfold spec_l4Join.f
 repeat' first
  | (with_reducible first | exact ih0 .. | exact ih1 .. | exact ih2 .. | exact ih3 .. | exact ih4 .. | exact ih5 .. | exact ih6 .. | exact LeO.refl _ | exact LeO.none _ | refine LeO.ite ?_ ?_ | refine LeO.bind ?_ (fun _ => ?_))
  | exact LeO.none _
  | refine LeO.ite ?_ ?_
  | refine LeO.bind ?_ (fun _ => ?_)
set_option maxHeartbeats 8000000 in
set_option maxRecDepth 100000 in
theorem spec_l4Join.calls (k : Nat) (a0_0 : Int) (a0_1 : Int) (a0_2 : Int) (a0_3 : Int) (A0_4 : Option Addr) (c0_4 : Nat) (l0_4 : List Int) (a0_5 : Bool) (a1_0 : Int) (a1_1 : Int) (a1_2 : Int) (a1_3 : Int) (A1_4 : Option Addr) (c1_4 : Nat) (l1_4 : List Int) (a1_5 : Bool) (r1 : Int) (r2 : Int) (r3 : Int) (r4 : Int) (r5 : List Int) (r6 : Bool) (w : World) (hr0_4 : Kd.C (Kd.int .i64) w A0_4 l0_4.length l0_4) (hc0_4 : l0_4.length ≤ c0_4) (hr1_4 : Kd.C (Kd.int .i64) w A1_4 l1_4.length l1_4) (hc1_4 : l1_4.length ≤ c1_4) (h : spec_l4Join.f k a0_0 a0_1 a0_2 a0_3 l0_4 a0_5 a1_0 a1_1 a1_2 a1_3 l1_4 a1_5 = some (r1, r2, r3, r4, r5, r6)) :
 Calls Try.prog 68 #[.agg #[.int .i64 a0_0, .int .i64 a0_1, .int .i64 a0_2, .int .i64 a0_3, .slice A0_4 l0_4.length c0_4, .bool a0_5], .agg #[.int .i64 a1_0, .int .i64 a1_1, .int .i64 a1_2, .int .i64 a1_3, .slice A1_4 l1_4.length c1_4, .bool a1_5]] w fun e w' => ∃ v4_ : Value, e = .returned (.agg #[.int .i64 r1, .int .i64 r2, .int .i64 r3, .int .i64 r4, v4_, .bool r6]) ∧ Kd.R (Kd.int .i64) 3 w' w.heap.size (fun _ => True) v4_ r5 ∧ Below w.heap.size w w' := by
 have hu26 := Try.underlying26
 have HR0_4 := aM hr0_4
 have HC0_4 := aM hc0_4
 clear hr0_4 hc0_4
 have HR1_4 := aM hr1_4
 have HC1_4 := aM hc1_4
 clear hr1_4 hc1_4
 have HB := aM (Below.refl w.heap.size w)
 have H : (if a0_0 = 0 then ((spec_l4Own.f a1_0 a1_1 a1_2 a1_3 l1_4 a1_5).bind fun bt104 => (some (bt104.1, bt104.2.1, bt104.2.2.1, bt104.2.2.2.1, bt104.2.2.2.2.1, bt104.2.2.2.2.2))) else (if a1_0 = 0 then ((spec_l4Own.f a0_0 a0_1 a0_2 a0_3 l0_4 a0_5).bind fun bt112 => (some (bt112.1, bt112.2.1, bt112.2.2.1, bt112.2.2.2.1, bt112.2.2.2.2.1, bt112.2.2.2.2.2))) else (if a0_5 = true then (if (wrap64 (a0_0 + a1_0)) > 1000000000 then (spec_l4Join.j0 k a0_0 a0_1 a0_2 a0_3 l0_4 a0_5 a1_0 a1_1 a1_2 a1_3 l1_4 a1_5 1000000000 (wrap64 (a0_1 + a1_1)) a0_2 a0_3 true) else (spec_l4Join.j0 k a0_0 a0_1 a0_2 a0_3 l0_4 a0_5 a1_0 a1_1 a1_2 a1_3 l1_4 a1_5 (wrap64 (a0_0 + a1_0)) (wrap64 (a0_1 + a1_1)) a0_2 a0_3 true)) else (if (wrap64 (a0_0 + a1_0)) > 1000000000 then (spec_l4Join.j4 k a0_0 a0_1 a0_2 a0_3 l0_4 a0_5 a1_0 a1_1 a1_2 a1_3 l1_4 a1_5 1000000000 (wrap64 (a0_1 + a1_1)) a0_2 a0_3 true) else (spec_l4Join.j4 k a0_0 a0_1 a0_2 a0_3 l0_4 a0_5 a1_0 a1_1 a1_2 a1_3 l1_4 a1_5 (wrap64 (a0_0 + a1_0)) (wrap64 (a0_1 + a1_1)) a0_2 a0_3 a1_5))))) = some (r1, r2, r3, r4, r5, r6) := h
 clear h
 by_cases c3 : a0_0 = 0
 · rw [if_pos c3] at H
   have c3b0 : (a0_0 == 0) = true := beq_iff_eq.mpr c3
   have c3b1 : (a0_0 != 0) = false := bne_eq_false_iff_eq.mpr c3
   clear c3
   replace H := Option.bind_eq_some_iff.mp H
   obtain ⟨⟨t104, t105, t106, t107, t108, t111⟩, A40, H⟩ := H
   try dsimp only at H
   have A4 := aM A40
   clear A40
   simp only [Option.some.injEq, Prod.mk.injEq] at H
   obtain ⟨rfl, rfl, rfl, rfl, rfl, rfl⟩ := H
   go_enter Try.func68, Try.ntmps68
   go_wp2_with (first | ((with_reducible refine gate_dst (N := 2) rfl ?_); refine box_event ?hg (N := 2) ?hd (cs := #[.int .i64 a0_0, .int .i64 a0_1, .int .i64 a0_2, .int .i64 a0_3, .slice A0_4 l0_4.length c0_4, .bool a0_5]) (t := 26) ?hr ?_; (case hd => rfl); (case hg => rfl); (case hr => first | (go_simp; done) | (go_simp; rfl)); intro gb90002 hg w5 hbox hb; have _ := aM (below_step hbZ hb); have _ := aM hbox; have _ := szZ hg; have _ := szZ hg; clear HB; rename_i HB BK90002 GW90002 GE90002; clear hb hbox hg) | ((with_reducible refine gate_dst (N := 3) rfl ?_); refine box_event ?hg (N := 3) ?hd (cs := #[.int .i64 a1_0, .int .i64 a1_1, .int .i64 a1_2, .int .i64 a1_3, .slice A1_4 l1_4.length c1_4, .bool a1_5]) (t := 26) ?hr ?_; (case hd => rfl); (case hg => rfl); (case hr => first | (go_simp; done) | (go_simp; rfl)); intro gb90003 hg w6 hbox hb; have _ := bB gb90002 hb; have _ := aM (below_step hbZ hb); have _ := aM hbox; have _ := szZ hg; have _ := szZ hg; have ⟨_, _⟩ := nbB gb90002 hg; clear BK90002 HB; rename_i BK90002 HB BK90003 GW90003 GE90003 NB90002_90003 NB90003_90002; clear hb hbox hg) | ((with_reducible refine gate_dst (N := 4) rfl ?_); refine box_event ?hg (N := 4) ?hd (cs := #[.int .i64 0, .int .i64 0, .int .i64 0, .int .i64 0, .slice none 0 0, .bool false]) (t := 26) ?hr ?_; (case hd => rfl); (case hg => rfl); (case hr => first | (go_simp; done) | (go_simp; rfl)); intro gb90004 hg w7 hbox hb; have _ := bB gb90002 hb; have _ := bB gb90003 hb; have _ := aM (below_step hbZ hb); have _ := aM hbox; have _ := szZ hg; have _ := szZ hg; have ⟨_, _⟩ := nbB gb90002 hg; have ⟨_, _⟩ := nbB gb90003 hg; clear BK90002 BK90003 HB; rename_i BK90002 BK90003 HB BK90004 GW90004 GE90004 NB90002_90004 NB90004_90002 NB90003_90004 NB90004_90003; clear hb hbox hg; have hnb8 := NB90002_90003.out; have hnc8 := NB90003_90002.out; have hnb9 := NB90002_90004.out; have hnc9 := NB90004_90002.out; obtain ⟨hcz10_0, hcz10_1, hcz10_2, hcz10_3, hcz10_4, hcz10_5, hfz10_0, hfz10_1, hfz10_2, hfz10_3, hfz10_4, hfz10_5⟩ := cellsZ6 BK90002.out; have hnb11 := NB90003_90004.out; have hnc11 := NB90004_90003.out; obtain ⟨hcz12_0, hcz12_1, hcz12_2, hcz12_3, hcz12_4, hcz12_5, hfz12_0, hfz12_1, hfz12_2, hfz12_3, hfz12_4, hfz12_5⟩ := cellsZ6 BK90003.out) | ((with_reducible refine gate_callee (f := 67) rfl ?_); refine goesL_ (some 13) rfl rfl Try.func67 (by kernel_rfl) rfl #[.agg #[.int .i64 a1_0, .int .i64 a1_1, .int .i64 a1_2, .int .i64 a1_3, .slice A1_4 l1_4.length c1_4, .bool a1_5]] rfl zee81 ?_; (with_reducible refine (spec_l4Own.calls a1_0 a1_1 a1_2 a1_3 _ _ l1_4 a1_5 t104 t105 t106 t107 t108 t111 _ ?side1 ?side2 A4.out).mono ?_); (case side1 => exact (cZ (Kd.C_below HR1_4.out HB.out))); (case side2 => exact HC1_4.out); rintro e w13 ⟨v109, rfl, ho0, hb⟩; refine ⟨_, rfl, ?_⟩; have _ := aM (Kd.R_lower ho0 (below_size hbZ)); have _ := bB gb90002 hb; have _ := bB gb90003 hb; have _ := bB gb90004 hb; have _ := aM (below_step hbZ hb); clear BK90002 BK90003 BK90004 HB; rename_i HO110 BK90002 BK90003 BK90004 HB; (try clear hb); (try clear ho0); obtain ⟨hcz14_0, hcz14_1, hcz14_2, hcz14_3, hcz14_4, hcz14_5, hfz14_0, hfz14_1, hfz14_2, hfz14_3, hfz14_4, hfz14_5⟩ := cellsZ6 BK90004.out; obtain ⟨Ao15, co15, eo15⟩ := Kd.R_slice HO110.out; subst eo15))
   refine bodyPost_ret (results_cell_row rfl _ _ gb90004 26 #[.int .i64 t104, .int .i64 t105, .int .i64 t106, .int .i64 t107, .slice Ao15 t108.length co15, .bool t111] (0, 0) _ rfl bkZ Try.underlying26 rfl (by kernel_rfl)) rfl ?_
   exact ⟨_, z674d, by (with_reducible repeat (first | apply Kd.R_alloc | apply Kd.R_drewN | apply Kd.R_drew)); exact Kd.R_mono (Kd.R_far (p := ⟨gb90004, 5, none⟩) (Kd.R_far (p := ⟨gb90004, 4, none⟩) (Kd.R_far (p := ⟨gb90004, 3, none⟩) (Kd.R_far (p := ⟨gb90004, 2, none⟩) (Kd.R_far (p := ⟨gb90004, 1, none⟩) (Kd.R_far (p := ⟨gb90004, 0, none⟩) (Kd.R_types HO110.out BK90004.out (by decide)) (fun _ hk => hk.2) (.int .i64 t104)) (fun _ hk => hk.2) (.int .i64 t105)) (fun _ hk => hk.2) (.int .i64 t106)) (fun _ hk => hk.2) (.int .i64 t107)) (fun _ hk => hk.2) (.slice Ao15 t108.length co15)) (fun _ hk => hk.2) (.bool t111)) (fun _ hk => trivial), zcb41⟩
 · rw [if_neg c3] at H
   have c3b0 : (a0_0 == 0) = false := beq_eq_false_iff_ne.mpr c3
   have c3b1 : (a0_0 != 0) = true := bne_iff_ne.mpr c3
   by_cases c16 : a1_0 = 0
   · rw [if_pos c16] at H
     have c16b0 : (a1_0 == 0) = true := beq_iff_eq.mpr c16
     have c16b1 : (a1_0 != 0) = false := bne_eq_false_iff_eq.mpr c16
     clear c16
     replace H := Option.bind_eq_some_iff.mp H
     obtain ⟨⟨t112, t113, t114, t115, t116, t119⟩, A170, H⟩ := H
     try dsimp only at H
     have A17 := aM A170
     clear A170
     simp only [Option.some.injEq, Prod.mk.injEq] at H
     obtain ⟨rfl, rfl, rfl, rfl, rfl, rfl⟩ := H
     go_enter Try.func68, Try.ntmps68
     go_wp2_with (first | ((with_reducible refine gate_dst (N := 2) rfl ?_); refine box_event ?hg (N := 2) ?hd (cs := #[.int .i64 a0_0, .int .i64 a0_1, .int .i64 a0_2, .int .i64 a0_3, .slice A0_4 l0_4.length c0_4, .bool a0_5]) (t := 26) ?hr ?_; (case hd => rfl); (case hg => rfl); (case hr => first | (go_simp; done) | (go_simp; rfl)); intro gb90002 hg w18 hbox hb; have _ := aM (below_step hbZ hb); have _ := aM hbox; have _ := szZ hg; have _ := szZ hg; clear HB; rename_i HB BK90002 GW90002 GE90002; clear hb hbox hg) | ((with_reducible refine gate_dst (N := 3) rfl ?_); refine box_event ?hg (N := 3) ?hd (cs := #[.int .i64 a1_0, .int .i64 a1_1, .int .i64 a1_2, .int .i64 a1_3, .slice A1_4 l1_4.length c1_4, .bool a1_5]) (t := 26) ?hr ?_; (case hd => rfl); (case hg => rfl); (case hr => first | (go_simp; done) | (go_simp; rfl)); intro gb90003 hg w19 hbox hb; have _ := bB gb90002 hb; have _ := aM (below_step hbZ hb); have _ := aM hbox; have _ := szZ hg; have _ := szZ hg; have ⟨_, _⟩ := nbB gb90002 hg; clear BK90002 HB; rename_i BK90002 HB BK90003 GW90003 GE90003 NB90002_90003 NB90003_90002; clear hb hbox hg) | ((with_reducible refine gate_dst (N := 4) rfl ?_); refine box_event ?hg (N := 4) ?hd (cs := #[.int .i64 0, .int .i64 0, .int .i64 0, .int .i64 0, .slice none 0 0, .bool false]) (t := 26) ?hr ?_; (case hd => rfl); (case hg => rfl); (case hr => first | (go_simp; done) | (go_simp; rfl)); intro gb90004 hg w20 hbox hb; have _ := bB gb90002 hb; have _ := bB gb90003 hb; have _ := aM (below_step hbZ hb); have _ := aM hbox; have _ := szZ hg; have _ := szZ hg; have ⟨_, _⟩ := nbB gb90002 hg; have ⟨_, _⟩ := nbB gb90003 hg; clear BK90002 BK90003 HB; rename_i BK90002 BK90003 HB BK90004 GW90004 GE90004 NB90002_90004 NB90004_90002 NB90003_90004 NB90004_90003; clear hb hbox hg; have hnb21 := NB90002_90003.out; have hnc21 := NB90003_90002.out; have hnb22 := NB90002_90004.out; have hnc22 := NB90004_90002.out; obtain ⟨hcz23_0, hcz23_1, hcz23_2, hcz23_3, hcz23_4, hcz23_5, hfz23_0, hfz23_1, hfz23_2, hfz23_3, hfz23_4, hfz23_5⟩ := cellsZ6 BK90002.out; have hnb24 := NB90003_90004.out; have hnc24 := NB90004_90003.out; obtain ⟨hcz25_0, hcz25_1, hcz25_2, hcz25_3, hcz25_4, hcz25_5, hfz25_0, hfz25_1, hfz25_2, hfz25_3, hfz25_4, hfz25_5⟩ := cellsZ6 BK90003.out) | ((with_reducible refine gate_callee (f := 67) rfl ?_); refine goesL_ (some 18) rfl rfl Try.func67 (by kernel_rfl) rfl #[.agg #[.int .i64 a0_0, .int .i64 a0_1, .int .i64 a0_2, .int .i64 a0_3, .slice A0_4 l0_4.length c0_4, .bool a0_5]] rfl zee81 ?_; (with_reducible refine (spec_l4Own.calls a0_0 a0_1 a0_2 a0_3 _ _ l0_4 a0_5 t112 t113 t114 t115 t116 t119 _ ?side1 ?side2 A17.out).mono ?_); (case side1 => exact (cZ (Kd.C_below HR0_4.out HB.out))); (case side2 => exact HC0_4.out); rintro e w26 ⟨v117, rfl, ho0, hb⟩; refine ⟨_, rfl, ?_⟩; have _ := aM (Kd.R_lower ho0 (below_size hbZ)); have _ := bB gb90002 hb; have _ := bB gb90003 hb; have _ := bB gb90004 hb; have _ := aM (below_step hbZ hb); clear BK90002 BK90003 BK90004 HB; rename_i HO118 BK90002 BK90003 BK90004 HB; (try clear hb); (try clear ho0); obtain ⟨hcz27_0, hcz27_1, hcz27_2, hcz27_3, hcz27_4, hcz27_5, hfz27_0, hfz27_1, hfz27_2, hfz27_3, hfz27_4, hfz27_5⟩ := cellsZ6 BK90004.out; obtain ⟨Ao28, co28, eo28⟩ := Kd.R_slice HO118.out; subst eo28))
     refine bodyPost_ret (results_cell_row rfl _ _ gb90004 26 #[.int .i64 t112, .int .i64 t113, .int .i64 t114, .int .i64 t115, .slice Ao28 t116.length co28, .bool t119] (0, 0) _ rfl bkZ Try.underlying26 rfl (by kernel_rfl)) rfl ?_
     exact ⟨_, z674d, by (with_reducible repeat (first | apply Kd.R_alloc | apply Kd.R_drewN | apply Kd.R_drew)); exact Kd.R_mono (Kd.R_far (p := ⟨gb90004, 5, none⟩) (Kd.R_far (p := ⟨gb90004, 4, none⟩) (Kd.R_far (p := ⟨gb90004, 3, none⟩) (Kd.R_far (p := ⟨gb90004, 2, none⟩) (Kd.R_far (p := ⟨gb90004, 1, none⟩) (Kd.R_far (p := ⟨gb90004, 0, none⟩) (Kd.R_types HO118.out BK90004.out (by decide)) (fun _ hk => hk.2) (.int .i64 t112)) (fun _ hk => hk.2) (.int .i64 t113)) (fun _ hk => hk.2) (.int .i64 t114)) (fun _ hk => hk.2) (.int .i64 t115)) (fun _ hk => hk.2) (.slice Ao28 t116.length co28)) (fun _ hk => hk.2) (.bool t119)) (fun _ hk => trivial), zcb41⟩
   · rw [if_neg c16] at H
     have c16b0 : (a1_0 == 0) = false := beq_eq_false_iff_ne.mpr c16
     have c16b1 : (a1_0 != 0) = true := bne_iff_ne.mpr c16
     by_cases c29 : a0_5 = true
     · subst c29
       rw [if_pos rfl] at H
       have HC30 := aM H
       clear H
       go_enter Try.func68, Try.ntmps68
       go_upto_if 42 with (first | ((with_reducible refine gate_dst (N := 2) rfl ?_); refine box_event ?hg (N := 2) ?hd (cs := #[.int .i64 a0_0, .int .i64 a0_1, .int .i64 a0_2, .int .i64 a0_3, .slice A0_4 l0_4.length c0_4, .bool true]) (t := 26) ?hr ?_; (case hd => rfl); (case hg => rfl); (case hr => first | (go_simp; done) | (go_simp; rfl)); intro gb90002 hg w31 hbox hb; have _ := aM (below_step hbZ hb); have _ := aM hbox; have _ := szZ hg; have _ := szZ hg; clear HB; rename_i HB BK90002 GW90002 GE90002; clear hb hbox hg) | ((with_reducible refine gate_dst (N := 3) rfl ?_); refine box_event ?hg (N := 3) ?hd (cs := #[.int .i64 a1_0, .int .i64 a1_1, .int .i64 a1_2, .int .i64 a1_3, .slice A1_4 l1_4.length c1_4, .bool a1_5]) (t := 26) ?hr ?_; (case hd => rfl); (case hg => rfl); (case hr => first | (go_simp; done) | (go_simp; rfl)); intro gb90003 hg w32 hbox hb; have _ := bB gb90002 hb; have _ := aM (below_step hbZ hb); have _ := aM hbox; have _ := szZ hg; have _ := szZ hg; have ⟨_, _⟩ := nbB gb90002 hg; clear BK90002 HB; rename_i BK90002 HB BK90003 GW90003 GE90003 NB90002_90003 NB90003_90002; clear hb hbox hg) | ((with_reducible refine gate_dst (N := 4) rfl ?_); refine box_event ?hg (N := 4) ?hd (cs := #[.int .i64 0, .int .i64 0, .int .i64 0, .int .i64 0, .slice none 0 0, .bool false]) (t := 26) ?hr ?_; (case hd => rfl); (case hg => rfl); (case hr => first | (go_simp; done) | (go_simp; rfl)); intro gb90004 hg w33 hbox hb; have _ := bB gb90002 hb; have _ := bB gb90003 hb; have _ := aM (below_step hbZ hb); have _ := aM hbox; have _ := szZ hg; have _ := szZ hg; have ⟨_, _⟩ := nbB gb90002 hg; have ⟨_, _⟩ := nbB gb90003 hg; clear BK90002 BK90003 HB; rename_i BK90002 BK90003 HB BK90004 GW90004 GE90004 NB90002_90004 NB90004_90002 NB90003_90004 NB90004_90003; clear hb hbox hg; have hnb34 := NB90002_90003.out; have hnc34 := NB90003_90002.out; have hnb35 := NB90002_90004.out; have hnc35 := NB90004_90002.out; obtain ⟨hcz36_0, hcz36_1, hcz36_2, hcz36_3, hcz36_4, hcz36_5, hfz36_0, hfz36_1, hfz36_2, hfz36_3, hfz36_4, hfz36_5⟩ := cellsZ6 BK90002.out; have hnb37 := NB90003_90004.out; have hnc37 := NB90004_90003.out; obtain ⟨hcz38_0, hcz38_1, hcz38_2, hcz38_3, hcz38_4, hcz38_5, hfz38_0, hfz38_1, hfz38_2, hfz38_3, hfz38_4, hfz38_5⟩ := cellsZ6 BK90003.out) | ((with_reducible refine gate_dst (N := 5) rfl ?_); refine box_event ?hg (N := 5) ?hd (cs := #[.int .i64 0, .int .i64 0, .int .i64 0, .int .i64 0, .slice none 0 0, .bool false]) (t := 26) ?hr ?_; (case hd => rfl); (case hg => rfl); (case hr => first | (go_simp; done) | (go_simp; rfl)); intro gb90005 hg w39 hbox hb; have _ := bB gb90002 hb; have _ := bB gb90003 hb; have _ := bB gb90004 hb; have _ := aM (below_step hbZ hb); have _ := aM hbox; have _ := szZ hg; have _ := szZ hg; have ⟨_, _⟩ := nbB gb90002 hg; have ⟨_, _⟩ := nbB gb90003 hg; have ⟨_, _⟩ := nbB gb90004 hg; clear BK90002 BK90003 BK90004 HB; rename_i BK90002 BK90003 BK90004 HB BK90005 GW90005 GE90005 NB90002_90005 NB90005_90002 NB90003_90005 NB90005_90003 NB90004_90005 NB90005_90004; clear hb hbox hg; have hnb40 := NB90005_90002.out; have hnc40 := NB90002_90005.out; have hnb41 := NB90005_90003.out; have hnc41 := NB90003_90005.out; have hnb42 := NB90005_90004.out; have hnc42 := NB90004_90005.out; obtain ⟨hcz43_0, hcz43_1, hcz43_2, hcz43_3, hcz43_4, hcz43_5, hfz43_0, hfz43_1, hfz43_2, hfz43_3, hfz43_4, hfz43_5⟩ := cellsZ6 BK90005.out))
       (try simp only [Act.put, List.setIfInBounds_toArray, List.set_cons_zero, List.set_cons_succ])
       go_cut [] (fun wc => ∃ (kq : Nat) (x90006000_29 : Int) (x90006005_29 : Bool), Aside0 (spec_l4Join.j0 kq a0_0 a0_1 a0_2 a0_3 l0_4 true a1_0 a1_1 a1_2 a1_3 l1_4 a1_5 x90006000_29 (wrap64 (a0_1 + a1_1)) a0_2 a0_3 x90006005_29 = some (r1, r2, r3, r4, r5, r6)) ∧ Aside0 (kq ≤ k) ∧ Aside0 (wc.heap[gb90002]? = some (.cells #[.int .i64 a0_0, .int .i64 a0_1, .int .i64 a0_2, .int .i64 a0_3, (.slice A0_4 l0_4.length c0_4), .bool true] 26 (0, 0))) ∧ Aside0 (wc.heap[gb90003]? = some (.cells #[.int .i64 a1_0, .int .i64 a1_1, .int .i64 a1_2, .int .i64 a1_3, (.slice A1_4 l1_4.length c1_4), .bool a1_5] 26 (0, 0))) ∧ Aside0 (wc.heap[gb90004]? = some (.cells #[.int .i64 0, .int .i64 0, .int .i64 0, .int .i64 0, (.slice none 0 0), .bool false] 26 (0, 0))) ∧ Aside0 (wc.heap[gb90005]? = some (.cells #[.int .i64 x90006000_29, .int .i64 (wrap64 (a0_1 + a1_1)), .int .i64 a0_2, .int .i64 a0_3, (.slice none 0 0), .bool x90006005_29] 26 (0, 0))) ∧ Aside0 (Below w.heap.size w wc))
       case first =>
        have H := HC30.out
        clear HC30
        by_cases c44 : (wrap64 (a0_0 + a1_0)) > 1000000000
        · rw [if_pos c44] at H
          have c44b0 : decide (1000000000 < (wrap64 (a0_0 + a1_0))) = true := decide_eq_true c44
          clear c44
          (first | rw [c44b0] | (simp only [i64_w, i32_w]; rw [c44b0]) | skip)
          have H' := aM H
          clear H
          have hnb45 := NB90005_90002.out
          have hnc45 := NB90002_90005.out
          have hnb46 := NB90005_90003.out
          have hnc46 := NB90003_90005.out
          have hnb47 := NB90005_90004.out
          have hnc47 := NB90004_90005.out
          obtain ⟨hcz48_0, hcz48_1, hcz48_2, hcz48_3, hcz48_4, hcz48_5, hfz48_0, hfz48_1, hfz48_2, hfz48_3, hfz48_4, hfz48_5⟩ := cellsZ6 BK90005.out
          go_wp2
          go_meet
          case rel => exact ⟨_, (1000000000), (true), H', ⟨zb79b⟩, ⟨bkZ⟩, ⟨bkZ⟩, ⟨bkZ⟩, ⟨bkZ⟩, ⟨zcb41⟩⟩
        · rw [if_neg c44] at H
          have c44b0 : decide (1000000000 < (wrap64 (a0_0 + a1_0))) = false := decide_eq_false c44
          clear c44
          (first | rw [c44b0] | (simp only [i64_w, i32_w]; rw [c44b0]) | skip)
          have H' := aM H
          clear H
          go_wp2
          go_meet
          case rel => exact ⟨_, (wrap64 (a0_0 + a1_0)), (true), H', ⟨zb79b⟩, ⟨bkZ⟩, ⟨bkZ⟩, ⟨bkZ⟩, ⟨bkZ⟩, ⟨zcb41⟩⟩
       case rest =>
        clear HC30
        try clear c1
        try clear c2
        try clear p2
        try clear c3
        try clear c3b0
        try clear c3b1
        try clear c4
        try clear c6
        try clear p6
        try clear c8
        try clear c9
        try clear c11
        try clear c16
        try clear c16b0
        try clear c16b1
        try clear c21
        try clear c22
        try clear c24
        try clear c29
        try clear c34
        try clear c35
        try clear c37
        try clear c40
        try clear c41
        try clear c42
        try clear c44
        try clear c44b0
        try clear c45
        try clear c46
        try clear c47
        obtain ⟨kq, x90006000_29, x90006005_29, HA, HJ29, BK90002, BK90003, BK90004, BK90005, HB⟩ := hcut
        cases kq with
        | zero => exact absurd HA.out (by simp [spec_l4Join.j0])
        | succ kj29 =>
         have H := HA.out
         clear HA
         simp only [spec_l4Join.j0] at H
         have HC49 := aM H
         clear H
         have hnb50 := NB90003_90002.out
         have hnc50 := NB90002_90003.out
         have hnb51 := NB90003_90004.out
         have hnc51 := NB90004_90003.out
         have hnb52 := NB90003_90005.out
         have hnc52 := NB90005_90003.out
         obtain ⟨hcz53_0, hcz53_1, hcz53_2, hcz53_3, hcz53_4, hcz53_5, hfz53_0, hfz53_1, hfz53_2, hfz53_3, hfz53_4, hfz53_5⟩ := cellsZ6 BK90003.out
         have hnb54 := NB90005_90002.out
         have hnc54 := NB90002_90005.out
         have hnb55 := NB90005_90004.out
         have hnc55 := NB90004_90005.out
         obtain ⟨hcz56_0, hcz56_1, hcz56_2, hcz56_3, hcz56_4, hcz56_5, hfz56_0, hfz56_1, hfz56_2, hfz56_3, hfz56_4, hfz56_5⟩ := cellsZ6 BK90005.out
         go_upto_if 49 with (fail)
         go_cut [] (fun wc => ∃ (kq : Nat) (x90006002_48 : Int), Aside0 (spec_l4Join.j1 kq a0_0 a0_1 a0_2 a0_3 l0_4 true a1_0 a1_1 a1_2 a1_3 l1_4 a1_5 x90006000_29 (wrap64 (a0_1 + a1_1)) x90006002_48 a0_3 x90006005_29 = some (r1, r2, r3, r4, r5, r6)) ∧ Aside0 (kq ≤ kj29) ∧ Aside0 (wc.heap[gb90002]? = some (.cells #[.int .i64 a0_0, .int .i64 a0_1, .int .i64 a0_2, .int .i64 a0_3, (.slice A0_4 l0_4.length c0_4), .bool true] 26 (0, 0))) ∧ Aside0 (wc.heap[gb90003]? = some (.cells #[.int .i64 a1_0, .int .i64 a1_1, .int .i64 a1_2, .int .i64 a1_3, (.slice A1_4 l1_4.length c1_4), .bool a1_5] 26 (0, 0))) ∧ Aside0 (wc.heap[gb90004]? = some (.cells #[.int .i64 0, .int .i64 0, .int .i64 0, .int .i64 0, (.slice none 0 0), .bool false] 26 (0, 0))) ∧ Aside0 (wc.heap[gb90005]? = some (.cells #[.int .i64 x90006000_29, .int .i64 (wrap64 (a0_1 + a1_1)), .int .i64 x90006002_48, .int .i64 a0_3, (.slice none 0 0), .bool x90006005_29] 26 (0, 0))) ∧ Aside0 (Below w.heap.size w wc))
         case first =>
          have H := HC49.out
          clear HC49
          by_cases c57 : a1_2 < a0_2
          · rw [if_pos c57] at H
            have c57b0 : decide (a1_2 < a0_2) = true := decide_eq_true c57
            clear c57
            (first | rw [c57b0] | (simp only [i64_w, i32_w]; rw [c57b0]) | skip)
            have H' := aM H
            clear H
            have hnb58 := NB90003_90002.out
            have hnc58 := NB90002_90003.out
            have hnb59 := NB90003_90004.out
            have hnc59 := NB90004_90003.out
            have hnb60 := NB90003_90005.out
            have hnc60 := NB90005_90003.out
            obtain ⟨hcz61_0, hcz61_1, hcz61_2, hcz61_3, hcz61_4, hcz61_5, hfz61_0, hfz61_1, hfz61_2, hfz61_3, hfz61_4, hfz61_5⟩ := cellsZ6 BK90003.out
            have hnb62 := NB90005_90002.out
            have hnc62 := NB90002_90005.out
            have hnb63 := NB90005_90004.out
            have hnc63 := NB90004_90005.out
            obtain ⟨hcz64_0, hcz64_1, hcz64_2, hcz64_3, hcz64_4, hcz64_5, hfz64_0, hfz64_1, hfz64_2, hfz64_3, hfz64_4, hfz64_5⟩ := cellsZ6 BK90005.out
            go_wp2
            go_meet
            case rel => exact ⟨_, (a1_2), H', ⟨by have := HJ29.out; first | omega | exact Nat.le_refl _⟩, ⟨bkZ⟩, ⟨bkZ⟩, ⟨bkZ⟩, ⟨bkZ⟩, ⟨zcb41⟩⟩
          · rw [if_neg c57] at H
            have c57b0 : decide (a1_2 < a0_2) = false := decide_eq_false c57
            clear c57
            (first | rw [c57b0] | (simp only [i64_w, i32_w]; rw [c57b0]) | skip)
            have H' := aM H
            clear H
            go_wp2
            go_meet
            case rel => exact ⟨_, (a0_2), H', ⟨by have := HJ29.out; first | omega | exact Nat.le_refl _⟩, ⟨bkZ⟩, ⟨bkZ⟩, ⟨bkZ⟩, ⟨bkZ⟩, ⟨zcb41⟩⟩
         case rest =>
          clear HC49
          try clear c1
          try clear c2
          try clear p2
          try clear c3
          try clear c3b0
          try clear c3b1
          try clear c4
          try clear c5
          try clear c6
          try clear p6
          try clear c8
          try clear c9
          try clear c11
          try clear c16
          try clear c16b0
          try clear c16b1
          try clear c21
          try clear c22
          try clear c24
          try clear c29
          try clear c34
          try clear c35
          try clear c37
          try clear c40
          try clear c41
          try clear c42
          try clear c44
          try clear c44b0
          try clear c45
          try clear c46
          try clear c47
          try clear c50
          try clear c51
          try clear c52
          try clear c54
          try clear c55
          try clear c57
          try clear c57b0
          try clear c58
          try clear c59
          try clear c60
          try clear c62
          try clear c63
          try clear p64
          try clear p2
          try clear p6
          obtain ⟨kq, x90006002_48, HA, HJ48, BK90002, BK90003, BK90004, BK90005, HB⟩ := hcut
          cases kq with
          | zero => exact absurd HA.out (by simp [spec_l4Join.j1])
          | succ kj48 =>
           have H := HA.out
           clear HA
           simp only [spec_l4Join.j1] at H
           have HC65 := aM H
           clear H
           have hnb66 := NB90003_90002.out
           have hnc66 := NB90002_90003.out
           have hnb67 := NB90003_90004.out
           have hnc67 := NB90004_90003.out
           have hnb68 := NB90003_90005.out
           have hnc68 := NB90005_90003.out
           obtain ⟨hcz69_0, hcz69_1, hcz69_2, hcz69_3, hcz69_4, hcz69_5, hfz69_0, hfz69_1, hfz69_2, hfz69_3, hfz69_4, hfz69_5⟩ := cellsZ6 BK90003.out
           have hnb70 := NB90005_90002.out
           have hnc70 := NB90002_90005.out
           have hnb71 := NB90005_90004.out
           have hnc71 := NB90004_90005.out
           obtain ⟨hcz72_0, hcz72_1, hcz72_2, hcz72_3, hcz72_4, hcz72_5, hfz72_0, hfz72_1, hfz72_2, hfz72_3, hfz72_4, hfz72_5⟩ := cellsZ6 BK90005.out
           go_upto_if 57 with (fail)
           go_cut [] (fun wc => ∃ (kq : Nat) (x90006003_64 : Int), Aside0 (spec_l4Join.j2 kq a0_0 a0_1 a0_2 a0_3 l0_4 true a1_0 a1_1 a1_2 a1_3 l1_4 a1_5 x90006000_29 (wrap64 (a0_1 + a1_1)) x90006002_48 x90006003_64 x90006005_29 = some (r1, r2, r3, r4, r5, r6)) ∧ Aside0 (kq ≤ kj48) ∧ Aside0 (wc.heap[gb90002]? = some (.cells #[.int .i64 a0_0, .int .i64 a0_1, .int .i64 a0_2, .int .i64 a0_3, (.slice A0_4 l0_4.length c0_4), .bool true] 26 (0, 0))) ∧ Aside0 (wc.heap[gb90003]? = some (.cells #[.int .i64 a1_0, .int .i64 a1_1, .int .i64 a1_2, .int .i64 a1_3, (.slice A1_4 l1_4.length c1_4), .bool a1_5] 26 (0, 0))) ∧ Aside0 (wc.heap[gb90004]? = some (.cells #[.int .i64 0, .int .i64 0, .int .i64 0, .int .i64 0, (.slice none 0 0), .bool false] 26 (0, 0))) ∧ Aside0 (wc.heap[gb90005]? = some (.cells #[.int .i64 x90006000_29, .int .i64 (wrap64 (a0_1 + a1_1)), .int .i64 x90006002_48, .int .i64 x90006003_64, (.slice none 0 0), .bool x90006005_29] 26 (0, 0))) ∧ Aside0 (Below w.heap.size w wc))
           case first =>
            have H := HC65.out
            clear HC65
            by_cases c73 : a1_3 > a0_3
            · rw [if_pos c73] at H
              have c73b0 : decide (a0_3 < a1_3) = true := decide_eq_true c73
              clear c73
              (first | rw [c73b0] | (simp only [i64_w, i32_w]; rw [c73b0]) | skip)
              have H' := aM H
              clear H
              have hnb74 := NB90003_90002.out
              have hnc74 := NB90002_90003.out
              have hnb75 := NB90003_90004.out
              have hnc75 := NB90004_90003.out
              have hnb76 := NB90003_90005.out
              have hnc76 := NB90005_90003.out
              obtain ⟨hcz77_0, hcz77_1, hcz77_2, hcz77_3, hcz77_4, hcz77_5, hfz77_0, hfz77_1, hfz77_2, hfz77_3, hfz77_4, hfz77_5⟩ := cellsZ6 BK90003.out
              have hnb78 := NB90005_90002.out
              have hnc78 := NB90002_90005.out
              have hnb79 := NB90005_90004.out
              have hnc79 := NB90004_90005.out
              obtain ⟨hcz80_0, hcz80_1, hcz80_2, hcz80_3, hcz80_4, hcz80_5, hfz80_0, hfz80_1, hfz80_2, hfz80_3, hfz80_4, hfz80_5⟩ := cellsZ6 BK90005.out
              go_wp2
              go_meet
              case rel => exact ⟨_, (a1_3), H', ⟨by have := HJ29.out; have := HJ48.out; first | omega | exact Nat.le_refl _⟩, ⟨bkZ⟩, ⟨bkZ⟩, ⟨bkZ⟩, ⟨bkZ⟩, ⟨zcb41⟩⟩
            · rw [if_neg c73] at H
              have c73b0 : decide (a0_3 < a1_3) = false := decide_eq_false c73
              clear c73
              (first | rw [c73b0] | (simp only [i64_w, i32_w]; rw [c73b0]) | skip)
              have H' := aM H
              clear H
              go_wp2
              go_meet
              case rel => exact ⟨_, (a0_3), H', ⟨by have := HJ29.out; have := HJ48.out; first | omega | exact Nat.le_refl _⟩, ⟨bkZ⟩, ⟨bkZ⟩, ⟨bkZ⟩, ⟨bkZ⟩, ⟨zcb41⟩⟩
           case rest =>
            clear HC65
            try clear c1
            try clear c2
            try clear p2
            try clear c3
            try clear c3b0
            try clear c3b1
            try clear c4
            try clear c5
            try clear c6
            try clear p6
            try clear c7
            try clear c8
            try clear c9
            try clear c11
            try clear c16
            try clear c16b0
            try clear c16b1
            try clear c21
            try clear c22
            try clear c24
            try clear c29
            try clear c34
            try clear c35
            try clear c37
            try clear c40
            try clear c41
            try clear c42
            try clear c44
            try clear c44b0
            try clear c45
            try clear c46
            try clear c47
            try clear c50
            try clear c51
            try clear c52
            try clear c54
            try clear c55
            try clear c57
            try clear c57b0
            try clear c58
            try clear c59
            try clear c60
            try clear c62
            try clear c63
            try clear p64
            try clear c66
            try clear c67
            try clear c68
            try clear c70
            try clear c71
            try clear c73
            try clear c73b0
            try clear c74
            try clear c75
            try clear c76
            try clear c78
            try clear c79
            try clear p2
            try clear p6
            try clear p64
            obtain ⟨kq, x90006003_64, HA, HJ64, BK90002, BK90003, BK90004, BK90005, HB⟩ := hcut
            cases kq with
            | zero => exact absurd HA.out (by simp [spec_l4Join.j2])
            | succ kj64 =>
             have H := HA.out
             clear HA
             simp only [spec_l4Join.j2] at H
             have H' := aM H
             clear H
             have hnb81 := NB90002_90003.out
             have hnc81 := NB90003_90002.out
             have hnb82 := NB90002_90004.out
             have hnc82 := NB90004_90002.out
             have hnb83 := NB90002_90005.out
             have hnc83 := NB90005_90002.out
             obtain ⟨hcz84_0, hcz84_1, hcz84_2, hcz84_3, hcz84_4, hcz84_5, hfz84_0, hfz84_1, hfz84_2, hfz84_3, hfz84_4, hfz84_5⟩ := cellsZ6 BK90002.out
             go_wp2
             go_loopg [64] kj64 (fun kq v64 w' => ∃ (x64_4 : Int) (x90006004_4 : List Int) (x90006005_4 : Bool) (u90006004 : Value), v64 = .int .i64 x64_4 ∧ Aside0 (spec_l4Join.l0 kq l0_4 (l0_4.length : Int) x64_4 a1_0 a1_1 a1_2 a1_3 l1_4 a1_5 x90006000_29 (wrap64 (a0_1 + a1_1)) x90006002_48 x90006003_64 x90006004_4 x90006005_4 = some (r1, r2, r3, r4, r5, r6)) ∧ Aside0 (kq ≤ kj64) ∧ Aside0 (Kd.R (Kd.int .i64) 3 w' w.heap.size (fun _ => True) u90006004 x90006004_4) ∧ Aside0 (w'.heap[gb90002]? = some (.cells #[.int .i64 a0_0, .int .i64 a0_1, .int .i64 a0_2, .int .i64 a0_3, (.slice A0_4 l0_4.length c0_4), .bool true] 26 (0, 0))) ∧ Aside0 (w'.heap[gb90003]? = some (.cells #[.int .i64 a1_0, .int .i64 a1_1, .int .i64 a1_2, .int .i64 a1_3, (.slice A1_4 l1_4.length c1_4), .bool a1_5] 26 (0, 0))) ∧ Aside0 (w'.heap[gb90004]? = some (.cells #[.int .i64 0, .int .i64 0, .int .i64 0, .int .i64 0, (.slice none 0 0), .bool false] 26 (0, 0))) ∧ Aside0 (w'.heap[gb90005]? = some (.cells #[.int .i64 x90006000_29, .int .i64 (wrap64 (a0_1 + a1_1)), .int .i64 x90006002_48, .int .i64 x90006003_64, u90006004, .bool x90006005_4] 26 (0, 0))) ∧ Aside0 (Below w.heap.size w w'))
             case atStart => exact ⟨(0), (([] : List Int)), (x90006005_29), (.slice none 0 0), z4458, H', ⟨Nat.le_refl _⟩, ⟨z02fa⟩, ⟨bkZ⟩, ⟨bkZ⟩, ⟨bkZ⟩, ⟨bkZ⟩, ⟨zcb41⟩⟩
             case round =>
              clear H'
              try clear c1
              try clear c2
              try clear p2
              try clear c3
              try clear c3b0
              try clear c3b1
              try clear c4
              try clear c5
              try clear c6
              try clear p6
              try clear c7
              try clear c8
              try clear c9
              try clear c11
              try clear c16
              try clear c16b0
              try clear c16b1
              try clear c21
              try clear c22
              try clear c24
              try clear c29
              try clear c34
              try clear c35
              try clear c37
              try clear c40
              try clear c41
              try clear c42
              try clear c44
              try clear c44b0
              try clear c45
              try clear c46
              try clear c47
              try clear c50
              try clear c51
              try clear c52
              try clear c54
              try clear c55
              try clear c57
              try clear c57b0
              try clear c58
              try clear c59
              try clear c60
              try clear c62
              try clear c63
              try clear p64
              try clear c66
              try clear c67
              try clear c68
              try clear c70
              try clear c71
              try clear c73
              try clear c73b0
              try clear c74
              try clear c75
              try clear c76
              try clear c78
              try clear c79
              try clear c81
              try clear c82
              try clear c83
              try clear p2
              try clear p6
              try clear p64
              obtain ⟨x64_4, x90006004_4, x90006005_4, u90006004, rfl, HA, HK4, HO_90006004, BK90002, BK90003, BK90004, BK90005, HB⟩ := hrel
              cases gk with
              | zero => exact absurd HA.out (by simp [spec_l4Join.l0])
              | succ k4 =>
               have H := HA.out
               clear HA
               simp only [spec_l4Join.l0] at H
               by_cases c85 : x64_4 < (l0_4.length : Int)
               · rw [if_pos c85] at H
                 have c85b0 : decide (x64_4 < (l0_4.length : Int)) = true := decide_eq_true c85
                 clear c85
                 replace H := ifS H; obtain ⟨c86, H⟩ := H
                 have c86b0 : decide (0 ≤ x64_4) = true := decide_eq_true c86
                 clear c86
                 replace H := ifS H; obtain ⟨c87, H⟩ := H
                 have c87b0 : decide (x64_4 < (l0_4.length : Int)) = true := decide_eq_true c87
                 clear c87
                 replace H := ifS H; obtain ⟨c88, H⟩ := H
                 have c88b0 : decide (x64_4 < (l1_4.length : Int)) = true := decide_eq_true c88
                 clear c88
                 by_cases c89 : (wrap64 ((rd l0_4 x64_4) + (rd l1_4 x64_4))) > 1000000000
                 · rw [if_pos c89] at H
                   have c89b0 : decide (1000000000 < (wrap64 ((rd l0_4 x64_4) + (rd l1_4 x64_4)))) = true := decide_eq_true c89
                   clear c89
                   replace H := ifS H; obtain ⟨c90, H⟩ := H
                   have LMc90 := aM c90
                   clear c90
                   obtain ⟨y123, hy123⟩ : ∃ y_ : List Int, y_ = (x90006004_4 ++ [1000000000]) := ⟨_, rfl⟩
                   first | (replace H := bindS H; rw [← hy123] at H; try dsimp only at H) | rw [← hy123] at H
                   have Ny123 := aM hy123
                   clear hy123
                   have H' := aM H
                   clear H
                   have p121 : 0 ≤ (x64_4 : Int) := of_decide_eq_true z1200
                   have q121 : x64_4 < (l0_4.length : Int) := of_decide_eq_true z1200
                   obtain ⟨ad121, e121, hx121_0⟩ := Kd.at_int HR0_4.out x64_4 p121 q121
                   cases e121
                   replace hx121_0 := (HB.out.cell (World.block_lt_of_cell? w _ hx121_0)).trans hx121_0
                   replace p121 := eq_true p121
                   replace q121 := eq_true q121
                   have hnb91 := NB90003_90002.out
                   have hnc91 := NB90002_90003.out
                   have hnb92 := NB90003_90004.out
                   have hnc92 := NB90004_90003.out
                   have hnb93 := NB90003_90005.out
                   have hnc93 := NB90005_90003.out
                   obtain ⟨hcz94_0, hcz94_1, hcz94_2, hcz94_3, hcz94_4, hcz94_5, hfz94_0, hfz94_1, hfz94_2, hfz94_3, hfz94_4, hfz94_5⟩ := cellsZ6 BK90003.out
                   have p122 : 0 ≤ (x64_4 : Int) := of_decide_eq_true z1200
                   have q122 : x64_4 < (l1_4.length : Int) := of_decide_eq_true z1200
                   obtain ⟨ad122, e122, hx122_0⟩ := Kd.at_int HR1_4.out x64_4 p122 q122
                   cases e122
                   replace hx122_0 := (HB.out.cell (World.block_lt_of_cell? w _ hx122_0)).trans hx122_0
                   replace p122 := eq_true p122
                   replace q122 := eq_true q122
                   have hnb95 := NB90005_90002.out
                   have hnc95 := NB90002_90005.out
                   have hnb96 := NB90005_90004.out
                   have hnc96 := NB90004_90005.out
                   obtain ⟨hcz97_0, hcz97_1, hcz97_2, hcz97_3, hcz97_4, hcz97_5, hfz97_0, hfz97_1, hfz97_2, hfz97_3, hfz97_4, hfz97_5⟩ := cellsZ6 BK90005.out
                   go_wp2_with (first | ((with_reducible refine gate_builtin (b := .append) (xs := #[.tmp 80, .tmp 82]) rfl ?_); at_builtin; refine Kd.R_append (Kd.int .i64) (w0 := w) w.heap.size rfl (.tmp 80) (.tmp 82) 24 3 (.int .i64 0) 8 rfl Try.underlying24 info3 rfl (by decide) (by omega) u90006004 x90006004_4 1000000000 [.int .i64 1000000000] (fun _ => True) (fun _ => False) rfl (by first | (go_simp; done) | (go_simp; rfl)) ?aP (fun _ hk => hk.elim) ?aF ?aO ?aB ?aS ?aL ?_; (case aP => exact rfl); (case aB => exact hbZ); (case aF => exact (fun _ _ => trivial)); (case aO => exact (by (with_reducible repeat (first | apply Kd.R_alloc | apply Kd.R_drewN | apply Kd.R_drew)); exact Kd.R_mono (Kd.R_far (p := ⟨gb90005, 5, none⟩) (Kd.R_types HO_90006004.out BK90005.out (by decide)) (fun _ hk => hk.2) (.bool true)) (fun _ hk => trivial))); (case aS => exact (below_size hbZ)); (case aL => have := LMc90.out; omega); intro v124 w98 ho hb hg hat; rw [← Ny123.out] at ho; have _ := aM (blk_grown (g := gb90002) bkZ hg (Kd.R_ne HO_90006004.out BK90002.out (by decide))); have _ := aM (blk_grown (g := gb90003) bkZ hg (Kd.R_ne HO_90006004.out BK90003.out (by decide))); have _ := aM (blk_grown (g := gb90004) bkZ hg (Kd.R_ne HO_90006004.out BK90004.out (by decide))); have _ := aM (blk_grown (g := gb90005) (o := .cells #[.int .i64 x90006000_29, .int .i64 (wrap64 (a0_1 + a1_1)), .int .i64 x90006002_48, .int .i64 x90006003_64, u90006004, .bool true] 26 (0, 0)) bkZ hg (Kd.R_ne HO_90006004.out BK90005.out (by decide))); have _ := aM hb; have _ := aM ho; clear BK90002 BK90003 BK90004 BK90005 HB HO_90006004; rename_i BK90002 BK90003 BK90004 BK90005 HB HO125; clear ho hb hg hat; obtain ⟨Ao99, co99, eo99⟩ := Kd.R_slice HO125.out; subst eo99; obtain ⟨hcz100_0, hcz100_1, hcz100_2, hcz100_3, hcz100_4, hcz100_5, hfz100_0, hfz100_1, hfz100_2, hfz100_3, hfz100_4, hfz100_5⟩ := cellsZ6 BK90005.out))
                   go_roundg k4
                   case measure => have := HJ29.out; have := HJ48.out; have := HJ64.out; have := HK4.out; omega
                   case rel => exact ⟨(wrap64 (x64_4 + 1)), (y123), (true), (.slice Ao99 y123.length co99), z4458, H', ⟨by have := HJ29.out; have := HJ48.out; have := HJ64.out; have := HK4.out; omega⟩, ⟨by (with_reducible repeat (first | apply Kd.R_alloc | apply Kd.R_drewN | apply Kd.R_drew)); exact Kd.R_mono (Kd.R_far (p := ⟨gb90005, 4, none⟩) (Kd.R_types HO125.out BK90005.out (by decide)) (fun _ hk => hk.2) (.slice Ao99 y123.length co99)) (fun _ hk => trivial)⟩, ⟨bkZ⟩, ⟨bkZ⟩, ⟨bkZ⟩, ⟨bkZ⟩, ⟨zcb41⟩⟩
                 · rw [if_neg c89] at H
                   have c89b0 : decide (1000000000 < (wrap64 ((rd l0_4 x64_4) + (rd l1_4 x64_4)))) = false := decide_eq_false c89
                   clear c89
                   replace H := ifS H; obtain ⟨c101, H⟩ := H
                   have LMc101 := aM c101
                   clear c101
                   obtain ⟨y126, hy126⟩ : ∃ y_ : List Int, y_ = (x90006004_4 ++ [wrap64 ((rd l0_4 x64_4) + (rd l1_4 x64_4))]) := ⟨_, rfl⟩
                   first | (replace H := bindS H; rw [← hy126] at H; try dsimp only at H) | rw [← hy126] at H
                   have Ny126 := aM hy126
                   clear hy126
                   have H' := aM H
                   clear H
                   have p121 : 0 ≤ (x64_4 : Int) := of_decide_eq_true z1200
                   have q121 : x64_4 < (l0_4.length : Int) := of_decide_eq_true z1200
                   obtain ⟨ad121, e121, hx121_0⟩ := Kd.at_int HR0_4.out x64_4 p121 q121
                   cases e121
                   replace hx121_0 := (HB.out.cell (World.block_lt_of_cell? w _ hx121_0)).trans hx121_0
                   replace p121 := eq_true p121
                   replace q121 := eq_true q121
                   have hnb102 := NB90003_90002.out
                   have hnc102 := NB90002_90003.out
                   have hnb103 := NB90003_90004.out
                   have hnc103 := NB90004_90003.out
                   have hnb104 := NB90003_90005.out
                   have hnc104 := NB90005_90003.out
                   obtain ⟨hcz105_0, hcz105_1, hcz105_2, hcz105_3, hcz105_4, hcz105_5, hfz105_0, hfz105_1, hfz105_2, hfz105_3, hfz105_4, hfz105_5⟩ := cellsZ6 BK90003.out
                   have p122 : 0 ≤ (x64_4 : Int) := of_decide_eq_true z1200
                   have q122 : x64_4 < (l1_4.length : Int) := of_decide_eq_true z1200
                   obtain ⟨ad122, e122, hx122_0⟩ := Kd.at_int HR1_4.out x64_4 p122 q122
                   cases e122
                   replace hx122_0 := (HB.out.cell (World.block_lt_of_cell? w _ hx122_0)).trans hx122_0
                   replace p122 := eq_true p122
                   replace q122 := eq_true q122
                   have hnb106 := NB90005_90002.out
                   have hnc106 := NB90002_90005.out
                   have hnb107 := NB90005_90004.out
                   have hnc107 := NB90004_90005.out
                   obtain ⟨hcz108_0, hcz108_1, hcz108_2, hcz108_3, hcz108_4, hcz108_5, hfz108_0, hfz108_1, hfz108_2, hfz108_3, hfz108_4, hfz108_5⟩ := cellsZ6 BK90005.out
                   go_wp2_with (first | ((with_reducible refine gate_builtin (b := .append) (xs := #[.tmp 80, .tmp 82]) rfl ?_); at_builtin; refine Kd.R_append (Kd.int .i64) (w0 := w) w.heap.size rfl (.tmp 80) (.tmp 82) 24 3 (.int .i64 0) 8 rfl Try.underlying24 info3 rfl (by decide) (by omega) u90006004 x90006004_4 (wrap64 ((rd l0_4 x64_4) + (rd l1_4 x64_4))) [.int .i64 (wrap64 ((rd l0_4 x64_4) + (rd l1_4 x64_4)))] (fun _ => True) (fun _ => False) rfl rfl ?aP (fun _ hk => hk.elim) ?aF ?aO ?aB ?aS ?aL ?_; (case aP => exact rfl); (case aB => exact hbZ); (case aF => exact (fun _ _ => trivial)); (case aO => exact (rZ HO_90006004.out)); (case aS => exact (below_size hbZ)); (case aL => have := LMc101.out; omega); intro v127 w109 ho hb hg hat; rw [← Ny126.out] at ho; have _ := aM (blk_grown (g := gb90002) bkZ hg (Kd.R_ne HO_90006004.out BK90002.out (by decide))); have _ := aM (blk_grown (g := gb90003) bkZ hg (Kd.R_ne HO_90006004.out BK90003.out (by decide))); have _ := aM (blk_grown (g := gb90004) bkZ hg (Kd.R_ne HO_90006004.out BK90004.out (by decide))); have _ := aM (blk_grown (g := gb90005) bkZ hg (Kd.R_ne HO_90006004.out BK90005.out (by decide))); have _ := aM hb; have _ := aM ho; clear BK90002 BK90003 BK90004 BK90005 HB HO_90006004; rename_i BK90002 BK90003 BK90004 BK90005 HB HO128; clear ho hb hg hat; obtain ⟨Ao110, co110, eo110⟩ := Kd.R_slice HO128.out; subst eo110; obtain ⟨hcz111_0, hcz111_1, hcz111_2, hcz111_3, hcz111_4, hcz111_5, hfz111_0, hfz111_1, hfz111_2, hfz111_3, hfz111_4, hfz111_5⟩ := cellsZ6 BK90005.out))
                   go_roundg k4
                   case measure => have := HJ29.out; have := HJ48.out; have := HJ64.out; have := HK4.out; omega
                   case rel => exact ⟨(wrap64 (x64_4 + 1)), (y126), (x90006005_4), (.slice Ao110 y126.length co110), z4458, H', ⟨by have := HJ29.out; have := HJ48.out; have := HJ64.out; have := HK4.out; omega⟩, ⟨by (with_reducible repeat (first | apply Kd.R_alloc | apply Kd.R_drewN | apply Kd.R_drew)); exact Kd.R_mono (Kd.R_far (p := ⟨gb90005, 4, none⟩) (Kd.R_types HO128.out BK90005.out (by decide)) (fun _ hk => hk.2) (.slice Ao110 y126.length co110)) (fun _ hk => trivial)⟩, ⟨bkZ⟩, ⟨bkZ⟩, ⟨bkZ⟩, ⟨bkZ⟩, ⟨zcb41⟩⟩
               · rw [if_neg c85] at H
                 have c85b0 : decide (x64_4 < (l0_4.length : Int)) = false := decide_eq_false c85
                 clear c85
                 by_cases c112 : x90006005_4 = true
                 · subst c112
                   rw [if_pos rfl] at H
                   simp only [Option.some.injEq, Prod.mk.injEq] at H
                   obtain ⟨rfl, rfl, rfl, rfl, rfl, rfl⟩ := H
                   have hnb113 := NB90005_90002.out
                   have hnc113 := NB90002_90005.out
                   have hnb114 := NB90005_90003.out
                   have hnc114 := NB90003_90005.out
                   have hnb115 := NB90005_90004.out
                   have hnc115 := NB90004_90005.out
                   obtain ⟨hcz116_0, hcz116_1, hcz116_2, hcz116_3, hcz116_4, hcz116_5, hfz116_0, hfz116_1, hfz116_2, hfz116_3, hfz116_4, hfz116_5⟩ := cellsZ6 BK90005.out
                   have hnb117 := NB90004_90002.out
                   have hnc117 := NB90002_90004.out
                   have hnb118 := NB90004_90003.out
                   have hnc118 := NB90003_90004.out
                   obtain ⟨hcz119_0, hcz119_1, hcz119_2, hcz119_3, hcz119_4, hcz119_5, hfz119_0, hfz119_1, hfz119_2, hfz119_3, hfz119_4, hfz119_5⟩ := cellsZ6 BK90004.out
                   obtain ⟨Ao120, co120, eo120⟩ := Kd.R_slice HO_90006004.out
                   subst eo120
                   go_wp2
                   refine bodyPost_ret (results_cell_row rfl _ _ gb90004 26 #[.int .i64 x90006000_29, .int .i64 0, .int .i64 x90006002_48, .int .i64 x90006003_64, .slice Ao120 x90006004_4.length co120, .bool true] (0, 0) _ rfl bkZ Try.underlying26 rfl (by kernel_rfl)) rfl ?_
                   exact ⟨_, z674d, by (with_reducible repeat (first | apply Kd.R_alloc | apply Kd.R_drewN | apply Kd.R_drew)); exact Kd.R_mono (Kd.R_far (p := ⟨gb90004, 5, none⟩) (Kd.R_far (p := ⟨gb90004, 4, none⟩) (Kd.R_far (p := ⟨gb90004, 3, none⟩) (Kd.R_far (p := ⟨gb90004, 2, none⟩) (Kd.R_far (p := ⟨gb90004, 1, none⟩) (Kd.R_far (p := ⟨gb90004, 0, none⟩) (Kd.R_far (p := ⟨gb90005, 1, none⟩) (Kd.R_types (Kd.R_types HO_90006004.out BK90005.out (by decide)) BK90004.out (by decide)) (fun _ hk => hk.1.2) (.int .i64 0)) (fun _ hk => hk.2) (.int .i64 x90006000_29)) (fun _ hk => hk.2) (.int .i64 0)) (fun _ hk => hk.2) (.int .i64 x90006002_48)) (fun _ hk => hk.2) (.int .i64 x90006003_64)) (fun _ hk => hk.2) (.slice Ao120 x90006004_4.length co120)) (fun _ hk => hk.2) (.bool true)) (fun _ hk => trivial), zcb41⟩
                 · replace c112 := Bool.eq_false_iff.mpr c112
                   subst c112
                   rw [if_neg (show ¬ (false = true) by decide)] at H
                   simp only [Option.some.injEq, Prod.mk.injEq] at H
                   obtain ⟨rfl, rfl, rfl, rfl, rfl, rfl⟩ := H
                   have hnb121 := NB90005_90002.out
                   have hnc121 := NB90002_90005.out
                   have hnb122 := NB90005_90003.out
                   have hnc122 := NB90003_90005.out
                   have hnb123 := NB90005_90004.out
                   have hnc123 := NB90004_90005.out
                   obtain ⟨hcz124_0, hcz124_1, hcz124_2, hcz124_3, hcz124_4, hcz124_5, hfz124_0, hfz124_1, hfz124_2, hfz124_3, hfz124_4, hfz124_5⟩ := cellsZ6 BK90005.out
                   have hnb125 := NB90004_90002.out
                   have hnc125 := NB90002_90004.out
                   have hnb126 := NB90004_90003.out
                   have hnc126 := NB90003_90004.out
                   obtain ⟨hcz127_0, hcz127_1, hcz127_2, hcz127_3, hcz127_4, hcz127_5, hfz127_0, hfz127_1, hfz127_2, hfz127_3, hfz127_4, hfz127_5⟩ := cellsZ6 BK90004.out
                   obtain ⟨Ao128, co128, eo128⟩ := Kd.R_slice HO_90006004.out
                   subst eo128
                   go_wp2
                   refine bodyPost_ret (results_cell_row rfl _ _ gb90004 26 #[.int .i64 x90006000_29, .int .i64 (wrap64 (a0_1 + a1_1)), .int .i64 x90006002_48, .int .i64 x90006003_64, .slice Ao128 x90006004_4.length co128, .bool false] (0, 0) _ rfl bkZ Try.underlying26 rfl (by kernel_rfl)) rfl ?_
                   exact ⟨_, z674d, by (with_reducible repeat (first | apply Kd.R_alloc | apply Kd.R_drewN | apply Kd.R_drew)); exact Kd.R_mono (Kd.R_far (p := ⟨gb90004, 5, none⟩) (Kd.R_far (p := ⟨gb90004, 4, none⟩) (Kd.R_far (p := ⟨gb90004, 3, none⟩) (Kd.R_far (p := ⟨gb90004, 2, none⟩) (Kd.R_far (p := ⟨gb90004, 1, none⟩) (Kd.R_far (p := ⟨gb90004, 0, none⟩) (Kd.R_types HO_90006004.out BK90004.out (by decide)) (fun _ hk => hk.2) (.int .i64 x90006000_29)) (fun _ hk => hk.2) (.int .i64 (wrap64 (a0_1 + a1_1)))) (fun _ hk => hk.2) (.int .i64 x90006002_48)) (fun _ hk => hk.2) (.int .i64 x90006003_64)) (fun _ hk => hk.2) (.slice Ao128 x90006004_4.length co128)) (fun _ hk => hk.2) (.bool false)) (fun _ hk => trivial), zcb41⟩
     · replace c29 := Bool.eq_false_iff.mpr c29
       subst c29
       rw [if_neg (show ¬ (false = true) by decide)] at H
       have HC129 := aM H
       clear H
       go_enter Try.func68, Try.ntmps68
       go_upto_if 42 with (first | ((with_reducible refine gate_dst (N := 2) rfl ?_); refine box_event ?hg (N := 2) ?hd (cs := #[.int .i64 a0_0, .int .i64 a0_1, .int .i64 a0_2, .int .i64 a0_3, .slice A0_4 l0_4.length c0_4, .bool false]) (t := 26) ?hr ?_; (case hd => rfl); (case hg => rfl); (case hr => first | (go_simp; done) | (go_simp; rfl)); intro gb90002 hg w130 hbox hb; have _ := aM (below_step hbZ hb); have _ := aM hbox; have _ := szZ hg; have _ := szZ hg; clear HB; rename_i HB BK90002 GW90002 GE90002; clear hb hbox hg) | ((with_reducible refine gate_dst (N := 3) rfl ?_); refine box_event ?hg (N := 3) ?hd (cs := #[.int .i64 a1_0, .int .i64 a1_1, .int .i64 a1_2, .int .i64 a1_3, .slice A1_4 l1_4.length c1_4, .bool a1_5]) (t := 26) ?hr ?_; (case hd => rfl); (case hg => rfl); (case hr => first | (go_simp; done) | (go_simp; rfl)); intro gb90003 hg w131 hbox hb; have _ := bB gb90002 hb; have _ := aM (below_step hbZ hb); have _ := aM hbox; have _ := szZ hg; have _ := szZ hg; have ⟨_, _⟩ := nbB gb90002 hg; clear BK90002 HB; rename_i BK90002 HB BK90003 GW90003 GE90003 NB90002_90003 NB90003_90002; clear hb hbox hg) | ((with_reducible refine gate_dst (N := 4) rfl ?_); refine box_event ?hg (N := 4) ?hd (cs := #[.int .i64 0, .int .i64 0, .int .i64 0, .int .i64 0, .slice none 0 0, .bool false]) (t := 26) ?hr ?_; (case hd => rfl); (case hg => rfl); (case hr => first | (go_simp; done) | (go_simp; rfl)); intro gb90004 hg w132 hbox hb; have _ := bB gb90002 hb; have _ := bB gb90003 hb; have _ := aM (below_step hbZ hb); have _ := aM hbox; have _ := szZ hg; have _ := szZ hg; have ⟨_, _⟩ := nbB gb90002 hg; have ⟨_, _⟩ := nbB gb90003 hg; clear BK90002 BK90003 HB; rename_i BK90002 BK90003 HB BK90004 GW90004 GE90004 NB90002_90004 NB90004_90002 NB90003_90004 NB90004_90003; clear hb hbox hg; have hnb133 := NB90002_90003.out; have hnc133 := NB90003_90002.out; have hnb134 := NB90002_90004.out; have hnc134 := NB90004_90002.out; obtain ⟨hcz135_0, hcz135_1, hcz135_2, hcz135_3, hcz135_4, hcz135_5, hfz135_0, hfz135_1, hfz135_2, hfz135_3, hfz135_4, hfz135_5⟩ := cellsZ6 BK90002.out; have hnb136 := NB90003_90004.out; have hnc136 := NB90004_90003.out; obtain ⟨hcz137_0, hcz137_1, hcz137_2, hcz137_3, hcz137_4, hcz137_5, hfz137_0, hfz137_1, hfz137_2, hfz137_3, hfz137_4, hfz137_5⟩ := cellsZ6 BK90003.out) | ((with_reducible refine gate_dst (N := 5) rfl ?_); refine box_event ?hg (N := 5) ?hd (cs := #[.int .i64 0, .int .i64 0, .int .i64 0, .int .i64 0, .slice none 0 0, .bool false]) (t := 26) ?hr ?_; (case hd => rfl); (case hg => rfl); (case hr => first | (go_simp; done) | (go_simp; rfl)); intro gb90005 hg w138 hbox hb; have _ := bB gb90002 hb; have _ := bB gb90003 hb; have _ := bB gb90004 hb; have _ := aM (below_step hbZ hb); have _ := aM hbox; have _ := szZ hg; have _ := szZ hg; have ⟨_, _⟩ := nbB gb90002 hg; have ⟨_, _⟩ := nbB gb90003 hg; have ⟨_, _⟩ := nbB gb90004 hg; clear BK90002 BK90003 BK90004 HB; rename_i BK90002 BK90003 BK90004 HB BK90005 GW90005 GE90005 NB90002_90005 NB90005_90002 NB90003_90005 NB90005_90003 NB90004_90005 NB90005_90004; clear hb hbox hg; have hnb139 := NB90005_90002.out; have hnc139 := NB90002_90005.out; have hnb140 := NB90005_90003.out; have hnc140 := NB90003_90005.out; have hnb141 := NB90005_90004.out; have hnc141 := NB90004_90005.out; obtain ⟨hcz142_0, hcz142_1, hcz142_2, hcz142_3, hcz142_4, hcz142_5, hfz142_0, hfz142_1, hfz142_2, hfz142_3, hfz142_4, hfz142_5⟩ := cellsZ6 BK90005.out))
       (try simp only [Act.put, List.setIfInBounds_toArray, List.set_cons_zero, List.set_cons_succ])
       go_cut [] (fun wc => ∃ (kq : Nat) (x90006000_128 : Int) (x90006005_128 : Bool), Aside0 (spec_l4Join.j4 kq a0_0 a0_1 a0_2 a0_3 l0_4 false a1_0 a1_1 a1_2 a1_3 l1_4 a1_5 x90006000_128 (wrap64 (a0_1 + a1_1)) a0_2 a0_3 x90006005_128 = some (r1, r2, r3, r4, r5, r6)) ∧ Aside0 (kq ≤ k) ∧ Aside0 (wc.heap[gb90002]? = some (.cells #[.int .i64 a0_0, .int .i64 a0_1, .int .i64 a0_2, .int .i64 a0_3, (.slice A0_4 l0_4.length c0_4), .bool false] 26 (0, 0))) ∧ Aside0 (wc.heap[gb90003]? = some (.cells #[.int .i64 a1_0, .int .i64 a1_1, .int .i64 a1_2, .int .i64 a1_3, (.slice A1_4 l1_4.length c1_4), .bool a1_5] 26 (0, 0))) ∧ Aside0 (wc.heap[gb90004]? = some (.cells #[.int .i64 0, .int .i64 0, .int .i64 0, .int .i64 0, (.slice none 0 0), .bool false] 26 (0, 0))) ∧ Aside0 (wc.heap[gb90005]? = some (.cells #[.int .i64 x90006000_128, .int .i64 (wrap64 (a0_1 + a1_1)), .int .i64 a0_2, .int .i64 a0_3, (.slice none 0 0), .bool x90006005_128] 26 (0, 0))) ∧ Aside0 (Below w.heap.size w wc))
       case first =>
        have H := HC129.out
        clear HC129
        by_cases c143 : (wrap64 (a0_0 + a1_0)) > 1000000000
        · rw [if_pos c143] at H
          have c143b0 : decide (1000000000 < (wrap64 (a0_0 + a1_0))) = true := decide_eq_true c143
          clear c143
          (first | rw [c143b0] | (simp only [i64_w, i32_w]; rw [c143b0]) | skip)
          have H' := aM H
          clear H
          have hnb144 := NB90005_90002.out
          have hnc144 := NB90002_90005.out
          have hnb145 := NB90005_90003.out
          have hnc145 := NB90003_90005.out
          have hnb146 := NB90005_90004.out
          have hnc146 := NB90004_90005.out
          obtain ⟨hcz147_0, hcz147_1, hcz147_2, hcz147_3, hcz147_4, hcz147_5, hfz147_0, hfz147_1, hfz147_2, hfz147_3, hfz147_4, hfz147_5⟩ := cellsZ6 BK90005.out
          go_wp2
          go_meet
          case rel => exact ⟨_, (1000000000), (true), H', ⟨zb79b⟩, ⟨bkZ⟩, ⟨bkZ⟩, ⟨bkZ⟩, ⟨bkZ⟩, ⟨zcb41⟩⟩
        · rw [if_neg c143] at H
          have c143b0 : decide (1000000000 < (wrap64 (a0_0 + a1_0))) = false := decide_eq_false c143
          clear c143
          (first | rw [c143b0] | (simp only [i64_w, i32_w]; rw [c143b0]) | skip)
          have H' := aM H
          clear H
          go_wp2
          go_meet
          case rel => exact ⟨_, (wrap64 (a0_0 + a1_0)), (a1_5), H', ⟨zb79b⟩, ⟨bkZ⟩, ⟨bkZ⟩, ⟨bkZ⟩, ⟨bkZ⟩, ⟨zcb41⟩⟩
       case rest =>
        clear HC129
        try clear c1
        try clear p1
        try clear q1
        try clear hx1
        try clear c2
        try clear p2
        try clear c3
        try clear c4
        try clear c5
        try clear c6
        try clear p6
        try clear c7
        try clear c8
        try clear c9
        try clear c10
        try clear c11
        try clear c12
        try clear p12
        try clear q12
        try clear hx12
        try clear c13
        try clear c14
        try clear c16
        try clear c16b0
        try clear c16b1
        try clear c21
        try clear c22
        try clear c24
        try clear c29
        try clear c34
        try clear c35
        try clear c37
        try clear c40
        try clear c41
        try clear c42
        try clear c44
        try clear c44b0
        try clear c45
        try clear c46
        try clear c47
        try clear c50
        try clear c51
        try clear c52
        try clear c54
        try clear c55
        try clear c57
        try clear c57b0
        try clear c58
        try clear c59
        try clear c60
        try clear c62
        try clear c63
        try clear p64
        try clear c66
        try clear c67
        try clear c68
        try clear c70
        try clear c71
        try clear c73
        try clear c73b0
        try clear c74
        try clear c75
        try clear c76
        try clear c78
        try clear c79
        try clear c81
        try clear c82
        try clear c83
        try clear c85
        try clear c85b0
        try clear c86
        try clear c86b0
        try clear c87
        try clear c87b0
        try clear c88
        try clear c88b0
        try clear c89
        try clear c89b0
        try clear c90
        try clear c91
        try clear c92
        try clear c93
        try clear c95
        try clear c96
        try clear c101
        try clear c102
        try clear c103
        try clear c104
        try clear c106
        try clear c107
        try clear c112
        try clear c113
        try clear c114
        try clear c115
        try clear c117
        try clear c118
        try clear c121
        try clear p121
        try clear q121
        try clear hx121
        try clear c122
        try clear p122
        try clear q122
        try clear hx122
        try clear c123
        try clear c125
        try clear c126
        try clear c133
        try clear c134
        try clear c136
        try clear c139
        try clear c140
        try clear c141
        try clear c143
        try clear c143b0
        try clear c144
        try clear c145
        try clear c146
        try clear hx121_0
        try clear hx122_0
        try clear p121
        try clear p122
        try clear p2
        try clear p6
        try clear p64
        try clear q121
        try clear q122
        obtain ⟨kq, x90006000_128, x90006005_128, HA, HJ128, BK90002, BK90003, BK90004, BK90005, HB⟩ := hcut
        cases kq with
        | zero => exact absurd HA.out (by simp [spec_l4Join.j4])
        | succ kj128 =>
         have H := HA.out
         clear HA
         simp only [spec_l4Join.j4] at H
         have HC148 := aM H
         clear H
         have hnb149 := NB90003_90002.out
         have hnc149 := NB90002_90003.out
         have hnb150 := NB90003_90004.out
         have hnc150 := NB90004_90003.out
         have hnb151 := NB90003_90005.out
         have hnc151 := NB90005_90003.out
         obtain ⟨hcz152_0, hcz152_1, hcz152_2, hcz152_3, hcz152_4, hcz152_5, hfz152_0, hfz152_1, hfz152_2, hfz152_3, hfz152_4, hfz152_5⟩ := cellsZ6 BK90003.out
         have hnb153 := NB90005_90002.out
         have hnc153 := NB90002_90005.out
         have hnb154 := NB90005_90004.out
         have hnc154 := NB90004_90005.out
         obtain ⟨hcz155_0, hcz155_1, hcz155_2, hcz155_3, hcz155_4, hcz155_5, hfz155_0, hfz155_1, hfz155_2, hfz155_3, hfz155_4, hfz155_5⟩ := cellsZ6 BK90005.out
         go_upto_if 49 with (fail)
         go_cut [] (fun wc => ∃ (kq : Nat) (x90006002_147 : Int), Aside0 (spec_l4Join.j5 kq a0_0 a0_1 a0_2 a0_3 l0_4 false a1_0 a1_1 a1_2 a1_3 l1_4 a1_5 x90006000_128 (wrap64 (a0_1 + a1_1)) x90006002_147 a0_3 x90006005_128 = some (r1, r2, r3, r4, r5, r6)) ∧ Aside0 (kq ≤ kj128) ∧ Aside0 (wc.heap[gb90002]? = some (.cells #[.int .i64 a0_0, .int .i64 a0_1, .int .i64 a0_2, .int .i64 a0_3, (.slice A0_4 l0_4.length c0_4), .bool false] 26 (0, 0))) ∧ Aside0 (wc.heap[gb90003]? = some (.cells #[.int .i64 a1_0, .int .i64 a1_1, .int .i64 a1_2, .int .i64 a1_3, (.slice A1_4 l1_4.length c1_4), .bool a1_5] 26 (0, 0))) ∧ Aside0 (wc.heap[gb90004]? = some (.cells #[.int .i64 0, .int .i64 0, .int .i64 0, .int .i64 0, (.slice none 0 0), .bool false] 26 (0, 0))) ∧ Aside0 (wc.heap[gb90005]? = some (.cells #[.int .i64 x90006000_128, .int .i64 (wrap64 (a0_1 + a1_1)), .int .i64 x90006002_147, .int .i64 a0_3, (.slice none 0 0), .bool x90006005_128] 26 (0, 0))) ∧ Aside0 (Below w.heap.size w wc))
         case first =>
          have H := HC148.out
          clear HC148
          by_cases c156 : a1_2 < a0_2
          · rw [if_pos c156] at H
            have c156b0 : decide (a1_2 < a0_2) = true := decide_eq_true c156
            clear c156
            (first | rw [c156b0] | (simp only [i64_w, i32_w]; rw [c156b0]) | skip)
            have H' := aM H
            clear H
            have hnb157 := NB90003_90002.out
            have hnc157 := NB90002_90003.out
            have hnb158 := NB90003_90004.out
            have hnc158 := NB90004_90003.out
            have hnb159 := NB90003_90005.out
            have hnc159 := NB90005_90003.out
            obtain ⟨hcz160_0, hcz160_1, hcz160_2, hcz160_3, hcz160_4, hcz160_5, hfz160_0, hfz160_1, hfz160_2, hfz160_3, hfz160_4, hfz160_5⟩ := cellsZ6 BK90003.out
            have hnb161 := NB90005_90002.out
            have hnc161 := NB90002_90005.out
            have hnb162 := NB90005_90004.out
            have hnc162 := NB90004_90005.out
            obtain ⟨hcz163_0, hcz163_1, hcz163_2, hcz163_3, hcz163_4, hcz163_5, hfz163_0, hfz163_1, hfz163_2, hfz163_3, hfz163_4, hfz163_5⟩ := cellsZ6 BK90005.out
            go_wp2
            go_meet
            case rel => exact ⟨_, (a1_2), H', ⟨by have := HJ128.out; first | omega | exact Nat.le_refl _⟩, ⟨bkZ⟩, ⟨bkZ⟩, ⟨bkZ⟩, ⟨bkZ⟩, ⟨zcb41⟩⟩
          · rw [if_neg c156] at H
            have c156b0 : decide (a1_2 < a0_2) = false := decide_eq_false c156
            clear c156
            (first | rw [c156b0] | (simp only [i64_w, i32_w]; rw [c156b0]) | skip)
            have H' := aM H
            clear H
            go_wp2
            go_meet
            case rel => exact ⟨_, (a0_2), H', ⟨by have := HJ128.out; first | omega | exact Nat.le_refl _⟩, ⟨bkZ⟩, ⟨bkZ⟩, ⟨bkZ⟩, ⟨bkZ⟩, ⟨zcb41⟩⟩
         case rest =>
          clear HC148
          try clear c1
          try clear p1
          try clear q1
          try clear hx1
          try clear c2
          try clear p2
          try clear c3
          try clear c4
          try clear c5
          try clear c6
          try clear p6
          try clear c7
          try clear c8
          try clear c9
          try clear c10
          try clear c11
          try clear c12
          try clear p12
          try clear q12
          try clear hx12
          try clear c13
          try clear c14
          try clear c15
          try clear c16
          try clear c22
          try clear c24
          try clear c29
          try clear c34
          try clear c35
          try clear c37
          try clear c40
          try clear c41
          try clear c42
          try clear c44
          try clear c44b0
          try clear c45
          try clear c46
          try clear c47
          try clear c50
          try clear c51
          try clear c52
          try clear c54
          try clear c55
          try clear c57
          try clear c57b0
          try clear c58
          try clear c59
          try clear c60
          try clear c62
          try clear c63
          try clear p64
          try clear c66
          try clear c67
          try clear c68
          try clear c70
          try clear c71
          try clear c73
          try clear c73b0
          try clear c74
          try clear c75
          try clear c76
          try clear c78
          try clear c79
          try clear c81
          try clear c82
          try clear c83
          try clear c85
          try clear c85b0
          try clear c86
          try clear c86b0
          try clear c87
          try clear c87b0
          try clear c88
          try clear c88b0
          try clear c89
          try clear c89b0
          try clear c90
          try clear c91
          try clear c92
          try clear c93
          try clear c95
          try clear c96
          try clear c101
          try clear c102
          try clear c103
          try clear c104
          try clear c106
          try clear c107
          try clear c112
          try clear c113
          try clear c114
          try clear c115
          try clear c117
          try clear c118
          try clear c121
          try clear p121
          try clear q121
          try clear hx121
          try clear c122
          try clear p122
          try clear q122
          try clear hx122
          try clear c123
          try clear c125
          try clear c126
          try clear c133
          try clear c134
          try clear c136
          try clear c139
          try clear c140
          try clear c141
          try clear c143
          try clear c143b0
          try clear c144
          try clear c145
          try clear c146
          try clear c149
          try clear c150
          try clear c151
          try clear c153
          try clear c154
          try clear c156
          try clear c156b0
          try clear c157
          try clear c158
          try clear c159
          try clear c161
          try clear c162
          try clear hx121_0
          try clear hx122_0
          try clear p121
          try clear p122
          try clear p2
          try clear p6
          try clear p64
          try clear q121
          try clear q122
          obtain ⟨kq, x90006002_147, HA, HJ147, BK90002, BK90003, BK90004, BK90005, HB⟩ := hcut
          cases kq with
          | zero => exact absurd HA.out (by simp [spec_l4Join.j5])
          | succ kj147 =>
           have H := HA.out
           clear HA
           simp only [spec_l4Join.j5] at H
           have HC164 := aM H
           clear H
           have hnb165 := NB90003_90002.out
           have hnc165 := NB90002_90003.out
           have hnb166 := NB90003_90004.out
           have hnc166 := NB90004_90003.out
           have hnb167 := NB90003_90005.out
           have hnc167 := NB90005_90003.out
           obtain ⟨hcz168_0, hcz168_1, hcz168_2, hcz168_3, hcz168_4, hcz168_5, hfz168_0, hfz168_1, hfz168_2, hfz168_3, hfz168_4, hfz168_5⟩ := cellsZ6 BK90003.out
           have hnb169 := NB90005_90002.out
           have hnc169 := NB90002_90005.out
           have hnb170 := NB90005_90004.out
           have hnc170 := NB90004_90005.out
           obtain ⟨hcz171_0, hcz171_1, hcz171_2, hcz171_3, hcz171_4, hcz171_5, hfz171_0, hfz171_1, hfz171_2, hfz171_3, hfz171_4, hfz171_5⟩ := cellsZ6 BK90005.out
           go_upto_if 57 with (fail)
           go_cut [] (fun wc => ∃ (kq : Nat) (x90006003_163 : Int), Aside0 (spec_l4Join.j6 kq a0_0 a0_1 a0_2 a0_3 l0_4 false a1_0 a1_1 a1_2 a1_3 l1_4 a1_5 x90006000_128 (wrap64 (a0_1 + a1_1)) x90006002_147 x90006003_163 x90006005_128 = some (r1, r2, r3, r4, r5, r6)) ∧ Aside0 (kq ≤ kj147) ∧ Aside0 (wc.heap[gb90002]? = some (.cells #[.int .i64 a0_0, .int .i64 a0_1, .int .i64 a0_2, .int .i64 a0_3, (.slice A0_4 l0_4.length c0_4), .bool false] 26 (0, 0))) ∧ Aside0 (wc.heap[gb90003]? = some (.cells #[.int .i64 a1_0, .int .i64 a1_1, .int .i64 a1_2, .int .i64 a1_3, (.slice A1_4 l1_4.length c1_4), .bool a1_5] 26 (0, 0))) ∧ Aside0 (wc.heap[gb90004]? = some (.cells #[.int .i64 0, .int .i64 0, .int .i64 0, .int .i64 0, (.slice none 0 0), .bool false] 26 (0, 0))) ∧ Aside0 (wc.heap[gb90005]? = some (.cells #[.int .i64 x90006000_128, .int .i64 (wrap64 (a0_1 + a1_1)), .int .i64 x90006002_147, .int .i64 x90006003_163, (.slice none 0 0), .bool x90006005_128] 26 (0, 0))) ∧ Aside0 (Below w.heap.size w wc))
           case first =>
            have H := HC164.out
            clear HC164
            by_cases c172 : a1_3 > a0_3
            · rw [if_pos c172] at H
              have c172b0 : decide (a0_3 < a1_3) = true := decide_eq_true c172
              clear c172
              (first | rw [c172b0] | (simp only [i64_w, i32_w]; rw [c172b0]) | skip)
              have H' := aM H
              clear H
              have hnb173 := NB90003_90002.out
              have hnc173 := NB90002_90003.out
              have hnb174 := NB90003_90004.out
              have hnc174 := NB90004_90003.out
              have hnb175 := NB90003_90005.out
              have hnc175 := NB90005_90003.out
              obtain ⟨hcz176_0, hcz176_1, hcz176_2, hcz176_3, hcz176_4, hcz176_5, hfz176_0, hfz176_1, hfz176_2, hfz176_3, hfz176_4, hfz176_5⟩ := cellsZ6 BK90003.out
              have hnb177 := NB90005_90002.out
              have hnc177 := NB90002_90005.out
              have hnb178 := NB90005_90004.out
              have hnc178 := NB90004_90005.out
              obtain ⟨hcz179_0, hcz179_1, hcz179_2, hcz179_3, hcz179_4, hcz179_5, hfz179_0, hfz179_1, hfz179_2, hfz179_3, hfz179_4, hfz179_5⟩ := cellsZ6 BK90005.out
              go_wp2
              go_meet
              case rel => exact ⟨_, (a1_3), H', ⟨by have := HJ128.out; have := HJ147.out; first | omega | exact Nat.le_refl _⟩, ⟨bkZ⟩, ⟨bkZ⟩, ⟨bkZ⟩, ⟨bkZ⟩, ⟨zcb41⟩⟩
            · rw [if_neg c172] at H
              have c172b0 : decide (a0_3 < a1_3) = false := decide_eq_false c172
              clear c172
              (first | rw [c172b0] | (simp only [i64_w, i32_w]; rw [c172b0]) | skip)
              have H' := aM H
              clear H
              go_wp2
              go_meet
              case rel => exact ⟨_, (a0_3), H', ⟨by have := HJ128.out; have := HJ147.out; first | omega | exact Nat.le_refl _⟩, ⟨bkZ⟩, ⟨bkZ⟩, ⟨bkZ⟩, ⟨bkZ⟩, ⟨zcb41⟩⟩
           case rest =>
            clear HC164
            try clear c1
            try clear p1
            try clear q1
            try clear hx1
            try clear p2
            try clear p6
            try clear c10
            try clear c11
            try clear c12
            try clear p12
            try clear q12
            try clear hx12
            try clear c13
            try clear c14
            try clear c15
            try clear c16
            try clear c17
            try clear p64
            try clear c103
            try clear c104
            try clear c106
            try clear c107
            try clear c112
            try clear c113
            try clear c114
            try clear c115
            try clear c117
            try clear c118
            try clear c121
            try clear p121
            try clear q121
            try clear hx121
            try clear c122
            try clear p122
            try clear q122
            try clear hx122
            try clear c123
            try clear c125
            try clear c126
            try clear c133
            try clear c134
            try clear c136
            try clear c139
            try clear c140
            try clear c141
            try clear c143
            try clear c143b0
            try clear c144
            try clear c145
            try clear c146
            try clear c149
            try clear c150
            try clear c151
            try clear c153
            try clear c154
            try clear c156
            try clear c156b0
            try clear c157
            try clear c158
            try clear c159
            try clear c161
            try clear c162
            try clear c165
            try clear c166
            try clear c167
            try clear c169
            try clear c170
            try clear c172
            try clear c172b0
            try clear c173
            try clear c174
            try clear c175
            try clear c177
            try clear c178
            try clear hx121_0
            try clear hx122_0
            try clear p121
            try clear p122
            try clear p2
            try clear p6
            try clear p64
            try clear q121
            try clear q122
            obtain ⟨kq, x90006003_163, HA, HJ163, BK90002, BK90003, BK90004, BK90005, HB⟩ := hcut
            cases kq with
            | zero => exact absurd HA.out (by simp [spec_l4Join.j6])
            | succ kj163 =>
             have H := HA.out
             clear HA
             simp only [spec_l4Join.j6] at H
             have H' := aM H
             clear H
             have hnb180 := NB90002_90003.out
             have hnc180 := NB90003_90002.out
             have hnb181 := NB90002_90004.out
             have hnc181 := NB90004_90002.out
             have hnb182 := NB90002_90005.out
             have hnc182 := NB90005_90002.out
             obtain ⟨hcz183_0, hcz183_1, hcz183_2, hcz183_3, hcz183_4, hcz183_5, hfz183_0, hfz183_1, hfz183_2, hfz183_3, hfz183_4, hfz183_5⟩ := cellsZ6 BK90002.out
             go_wp2
             go_loopg [64] kj163 (fun kq v64 w' => ∃ (x64_4 : Int) (x90006004_4 : List Int) (x90006005_4 : Bool) (u90006004 : Value), v64 = .int .i64 x64_4 ∧ Aside0 (spec_l4Join.l0 kq l0_4 (l0_4.length : Int) x64_4 a1_0 a1_1 a1_2 a1_3 l1_4 a1_5 x90006000_128 (wrap64 (a0_1 + a1_1)) x90006002_147 x90006003_163 x90006004_4 x90006005_4 = some (r1, r2, r3, r4, r5, r6)) ∧ Aside0 (kq ≤ kj163) ∧ Aside0 (Kd.R (Kd.int .i64) 3 w' w.heap.size (fun _ => True) u90006004 x90006004_4) ∧ Aside0 (w'.heap[gb90002]? = some (.cells #[.int .i64 a0_0, .int .i64 a0_1, .int .i64 a0_2, .int .i64 a0_3, (.slice A0_4 l0_4.length c0_4), .bool false] 26 (0, 0))) ∧ Aside0 (w'.heap[gb90003]? = some (.cells #[.int .i64 a1_0, .int .i64 a1_1, .int .i64 a1_2, .int .i64 a1_3, (.slice A1_4 l1_4.length c1_4), .bool a1_5] 26 (0, 0))) ∧ Aside0 (w'.heap[gb90004]? = some (.cells #[.int .i64 0, .int .i64 0, .int .i64 0, .int .i64 0, (.slice none 0 0), .bool false] 26 (0, 0))) ∧ Aside0 (w'.heap[gb90005]? = some (.cells #[.int .i64 x90006000_128, .int .i64 (wrap64 (a0_1 + a1_1)), .int .i64 x90006002_147, .int .i64 x90006003_163, u90006004, .bool x90006005_4] 26 (0, 0))) ∧ Aside0 (Below w.heap.size w w'))
             case atStart => exact ⟨(0), (([] : List Int)), (x90006005_128), (.slice none 0 0), z4458, H', ⟨Nat.le_refl _⟩, ⟨z02fa⟩, ⟨bkZ⟩, ⟨bkZ⟩, ⟨bkZ⟩, ⟨bkZ⟩, ⟨zcb41⟩⟩
             case round =>
              clear H'
              try clear c1
              try clear p1
              try clear q1
              try clear hx1
              try clear p2
              try clear p6
              try clear c10
              try clear c11
              try clear c12
              try clear p12
              try clear q12
              try clear hx12
              try clear c13
              try clear c14
              try clear c15
              try clear c16
              try clear c17
              try clear c18
              try clear p64
              try clear c103
              try clear c104
              try clear c106
              try clear c107
              try clear c112
              try clear c113
              try clear c114
              try clear c115
              try clear c117
              try clear c118
              try clear c121
              try clear p121
              try clear q121
              try clear hx121
              try clear c122
              try clear p122
              try clear q122
              try clear hx122
              try clear c123
              try clear c125
              try clear c126
              try clear c133
              try clear c134
              try clear c136
              try clear c139
              try clear c140
              try clear c141
              try clear c143
              try clear c143b0
              try clear c144
              try clear c145
              try clear c146
              try clear c149
              try clear c150
              try clear c151
              try clear c153
              try clear c154
              try clear c156
              try clear c156b0
              try clear c157
              try clear c158
              try clear c159
              try clear c161
              try clear c162
              try clear c165
              try clear c166
              try clear c167
              try clear c169
              try clear c170
              try clear c172
              try clear c172b0
              try clear c173
              try clear c174
              try clear c175
              try clear c177
              try clear c178
              try clear c180
              try clear c181
              try clear c182
              try clear hx121_0
              try clear hx122_0
              try clear p12
              try clear p121
              try clear p122
              try clear p2
              try clear p6
              try clear p64
              try clear q12
              try clear q121
              try clear q122
              obtain ⟨x64_4, x90006004_4, x90006005_4, u90006004, rfl, HA, HK4, HO_90006004, BK90002, BK90003, BK90004, BK90005, HB⟩ := hrel
              cases gk with
              | zero => exact absurd HA.out (by simp [spec_l4Join.l0])
              | succ k4 =>
               have H := HA.out
               clear HA
               simp only [spec_l4Join.l0] at H
               by_cases c184 : x64_4 < (l0_4.length : Int)
               · rw [if_pos c184] at H
                 have c184b0 : decide (x64_4 < (l0_4.length : Int)) = true := decide_eq_true c184
                 clear c184
                 replace H := ifS H; obtain ⟨c185, H⟩ := H
                 have c185b0 : decide (0 ≤ x64_4) = true := decide_eq_true c185
                 clear c185
                 replace H := ifS H; obtain ⟨c186, H⟩ := H
                 have c186b0 : decide (x64_4 < (l0_4.length : Int)) = true := decide_eq_true c186
                 clear c186
                 replace H := ifS H; obtain ⟨c187, H⟩ := H
                 have c187b0 : decide (x64_4 < (l1_4.length : Int)) = true := decide_eq_true c187
                 clear c187
                 by_cases c188 : (wrap64 ((rd l0_4 x64_4) + (rd l1_4 x64_4))) > 1000000000
                 · rw [if_pos c188] at H
                   have c188b0 : decide (1000000000 < (wrap64 ((rd l0_4 x64_4) + (rd l1_4 x64_4)))) = true := decide_eq_true c188
                   clear c188
                   replace H := ifS H; obtain ⟨c189, H⟩ := H
                   have LMc189 := aM c189
                   clear c189
                   obtain ⟨y123, hy123⟩ : ∃ y_ : List Int, y_ = (x90006004_4 ++ [1000000000]) := ⟨_, rfl⟩
                   first | (replace H := bindS H; rw [← hy123] at H; try dsimp only at H) | rw [← hy123] at H
                   have Ny123 := aM hy123
                   clear hy123
                   have H' := aM H
                   clear H
                   have p121 : 0 ≤ (x64_4 : Int) := of_decide_eq_true z1200
                   have q121 : x64_4 < (l0_4.length : Int) := of_decide_eq_true z1200
                   obtain ⟨ad121, e121, hx121_0⟩ := Kd.at_int HR0_4.out x64_4 p121 q121
                   cases e121
                   replace hx121_0 := (HB.out.cell (World.block_lt_of_cell? w _ hx121_0)).trans hx121_0
                   replace p121 := eq_true p121
                   replace q121 := eq_true q121
                   have hnb190 := NB90003_90002.out
                   have hnc190 := NB90002_90003.out
                   have hnb191 := NB90003_90004.out
                   have hnc191 := NB90004_90003.out
                   have hnb192 := NB90003_90005.out
                   have hnc192 := NB90005_90003.out
                   obtain ⟨hcz193_0, hcz193_1, hcz193_2, hcz193_3, hcz193_4, hcz193_5, hfz193_0, hfz193_1, hfz193_2, hfz193_3, hfz193_4, hfz193_5⟩ := cellsZ6 BK90003.out
                   have p122 : 0 ≤ (x64_4 : Int) := of_decide_eq_true z1200
                   have q122 : x64_4 < (l1_4.length : Int) := of_decide_eq_true z1200
                   obtain ⟨ad122, e122, hx122_0⟩ := Kd.at_int HR1_4.out x64_4 p122 q122
                   cases e122
                   replace hx122_0 := (HB.out.cell (World.block_lt_of_cell? w _ hx122_0)).trans hx122_0
                   replace p122 := eq_true p122
                   replace q122 := eq_true q122
                   have hnb194 := NB90005_90002.out
                   have hnc194 := NB90002_90005.out
                   have hnb195 := NB90005_90004.out
                   have hnc195 := NB90004_90005.out
                   obtain ⟨hcz196_0, hcz196_1, hcz196_2, hcz196_3, hcz196_4, hcz196_5, hfz196_0, hfz196_1, hfz196_2, hfz196_3, hfz196_4, hfz196_5⟩ := cellsZ6 BK90005.out
                   go_wp2_with (first | ((with_reducible refine gate_builtin (b := .append) (xs := #[.tmp 80, .tmp 82]) rfl ?_); at_builtin; refine Kd.R_append (Kd.int .i64) (w0 := w) w.heap.size rfl (.tmp 80) (.tmp 82) 24 3 (.int .i64 0) 8 rfl Try.underlying24 info3 rfl (by decide) (by omega) u90006004 x90006004_4 1000000000 [.int .i64 1000000000] (fun _ => True) (fun _ => False) rfl (by first | (go_simp; done) | (go_simp; rfl)) ?aP (fun _ hk => hk.elim) ?aF ?aO ?aB ?aS ?aL ?_; (case aP => exact rfl); (case aB => exact hbZ); (case aF => exact (fun _ _ => trivial)); (case aO => exact (by (with_reducible repeat (first | apply Kd.R_alloc | apply Kd.R_drewN | apply Kd.R_drew)); exact Kd.R_mono (Kd.R_far (p := ⟨gb90005, 5, none⟩) (Kd.R_types HO_90006004.out BK90005.out (by decide)) (fun _ hk => hk.2) (.bool true)) (fun _ hk => trivial))); (case aS => exact (below_size hbZ)); (case aL => have := LMc189.out; omega); intro v124 w197 ho hb hg hat; rw [← Ny123.out] at ho; have _ := aM (blk_grown (g := gb90002) bkZ hg (Kd.R_ne HO_90006004.out BK90002.out (by decide))); have _ := aM (blk_grown (g := gb90003) bkZ hg (Kd.R_ne HO_90006004.out BK90003.out (by decide))); have _ := aM (blk_grown (g := gb90004) bkZ hg (Kd.R_ne HO_90006004.out BK90004.out (by decide))); have _ := aM (blk_grown (g := gb90005) (o := .cells #[.int .i64 x90006000_128, .int .i64 (wrap64 (a0_1 + a1_1)), .int .i64 x90006002_147, .int .i64 x90006003_163, u90006004, .bool true] 26 (0, 0)) bkZ hg (Kd.R_ne HO_90006004.out BK90005.out (by decide))); have _ := aM hb; have _ := aM ho; clear BK90002 BK90003 BK90004 BK90005 HB HO_90006004; rename_i BK90002 BK90003 BK90004 BK90005 HB HO125; clear ho hb hg hat; obtain ⟨Ao198, co198, eo198⟩ := Kd.R_slice HO125.out; subst eo198; obtain ⟨hcz199_0, hcz199_1, hcz199_2, hcz199_3, hcz199_4, hcz199_5, hfz199_0, hfz199_1, hfz199_2, hfz199_3, hfz199_4, hfz199_5⟩ := cellsZ6 BK90005.out))
                   go_roundg k4
                   case measure => have := HJ128.out; have := HJ147.out; have := HJ163.out; have := HK4.out; omega
                   case rel => exact ⟨(wrap64 (x64_4 + 1)), (y123), (true), (.slice Ao198 y123.length co198), z4458, H', ⟨by have := HJ128.out; have := HJ147.out; have := HJ163.out; have := HK4.out; omega⟩, ⟨by (with_reducible repeat (first | apply Kd.R_alloc | apply Kd.R_drewN | apply Kd.R_drew)); exact Kd.R_mono (Kd.R_far (p := ⟨gb90005, 4, none⟩) (Kd.R_types HO125.out BK90005.out (by decide)) (fun _ hk => hk.2) (.slice Ao198 y123.length co198)) (fun _ hk => trivial)⟩, ⟨bkZ⟩, ⟨bkZ⟩, ⟨bkZ⟩, ⟨bkZ⟩, ⟨zcb41⟩⟩
                 · rw [if_neg c188] at H
                   have c188b0 : decide (1000000000 < (wrap64 ((rd l0_4 x64_4) + (rd l1_4 x64_4)))) = false := decide_eq_false c188
                   clear c188
                   replace H := ifS H; obtain ⟨c200, H⟩ := H
                   have LMc200 := aM c200
                   clear c200
                   obtain ⟨y126, hy126⟩ : ∃ y_ : List Int, y_ = (x90006004_4 ++ [wrap64 ((rd l0_4 x64_4) + (rd l1_4 x64_4))]) := ⟨_, rfl⟩
                   first | (replace H := bindS H; rw [← hy126] at H; try dsimp only at H) | rw [← hy126] at H
                   have Ny126 := aM hy126
                   clear hy126
                   have H' := aM H
                   clear H
                   have p121 : 0 ≤ (x64_4 : Int) := of_decide_eq_true z1200
                   have q121 : x64_4 < (l0_4.length : Int) := of_decide_eq_true z1200
                   obtain ⟨ad121, e121, hx121_0⟩ := Kd.at_int HR0_4.out x64_4 p121 q121
                   cases e121
                   replace hx121_0 := (HB.out.cell (World.block_lt_of_cell? w _ hx121_0)).trans hx121_0
                   replace p121 := eq_true p121
                   replace q121 := eq_true q121
                   have hnb201 := NB90003_90002.out
                   have hnc201 := NB90002_90003.out
                   have hnb202 := NB90003_90004.out
                   have hnc202 := NB90004_90003.out
                   have hnb203 := NB90003_90005.out
                   have hnc203 := NB90005_90003.out
                   obtain ⟨hcz204_0, hcz204_1, hcz204_2, hcz204_3, hcz204_4, hcz204_5, hfz204_0, hfz204_1, hfz204_2, hfz204_3, hfz204_4, hfz204_5⟩ := cellsZ6 BK90003.out
                   have p122 : 0 ≤ (x64_4 : Int) := of_decide_eq_true z1200
                   have q122 : x64_4 < (l1_4.length : Int) := of_decide_eq_true z1200
                   obtain ⟨ad122, e122, hx122_0⟩ := Kd.at_int HR1_4.out x64_4 p122 q122
                   cases e122
                   replace hx122_0 := (HB.out.cell (World.block_lt_of_cell? w _ hx122_0)).trans hx122_0
                   replace p122 := eq_true p122
                   replace q122 := eq_true q122
                   have hnb205 := NB90005_90002.out
                   have hnc205 := NB90002_90005.out
                   have hnb206 := NB90005_90004.out
                   have hnc206 := NB90004_90005.out
                   obtain ⟨hcz207_0, hcz207_1, hcz207_2, hcz207_3, hcz207_4, hcz207_5, hfz207_0, hfz207_1, hfz207_2, hfz207_3, hfz207_4, hfz207_5⟩ := cellsZ6 BK90005.out
                   go_wp2_with (first | ((with_reducible refine gate_builtin (b := .append) (xs := #[.tmp 80, .tmp 82]) rfl ?_); at_builtin; refine Kd.R_append (Kd.int .i64) (w0 := w) w.heap.size rfl (.tmp 80) (.tmp 82) 24 3 (.int .i64 0) 8 rfl Try.underlying24 info3 rfl (by decide) (by omega) u90006004 x90006004_4 (wrap64 ((rd l0_4 x64_4) + (rd l1_4 x64_4))) [.int .i64 (wrap64 ((rd l0_4 x64_4) + (rd l1_4 x64_4)))] (fun _ => True) (fun _ => False) rfl rfl ?aP (fun _ hk => hk.elim) ?aF ?aO ?aB ?aS ?aL ?_; (case aP => exact rfl); (case aB => exact hbZ); (case aF => exact (fun _ _ => trivial)); (case aO => exact (rZ HO_90006004.out)); (case aS => exact (below_size hbZ)); (case aL => have := LMc200.out; omega); intro v127 w208 ho hb hg hat; rw [← Ny126.out] at ho; have _ := aM (blk_grown (g := gb90002) bkZ hg (Kd.R_ne HO_90006004.out BK90002.out (by decide))); have _ := aM (blk_grown (g := gb90003) bkZ hg (Kd.R_ne HO_90006004.out BK90003.out (by decide))); have _ := aM (blk_grown (g := gb90004) bkZ hg (Kd.R_ne HO_90006004.out BK90004.out (by decide))); have _ := aM (blk_grown (g := gb90005) bkZ hg (Kd.R_ne HO_90006004.out BK90005.out (by decide))); have _ := aM hb; have _ := aM ho; clear BK90002 BK90003 BK90004 BK90005 HB HO_90006004; rename_i BK90002 BK90003 BK90004 BK90005 HB HO128; clear ho hb hg hat; obtain ⟨Ao209, co209, eo209⟩ := Kd.R_slice HO128.out; subst eo209; obtain ⟨hcz210_0, hcz210_1, hcz210_2, hcz210_3, hcz210_4, hcz210_5, hfz210_0, hfz210_1, hfz210_2, hfz210_3, hfz210_4, hfz210_5⟩ := cellsZ6 BK90005.out))
                   go_roundg k4
                   case measure => have := HJ128.out; have := HJ147.out; have := HJ163.out; have := HK4.out; omega
                   case rel => exact ⟨(wrap64 (x64_4 + 1)), (y126), (x90006005_4), (.slice Ao209 y126.length co209), z4458, H', ⟨by have := HJ128.out; have := HJ147.out; have := HJ163.out; have := HK4.out; omega⟩, ⟨by (with_reducible repeat (first | apply Kd.R_alloc | apply Kd.R_drewN | apply Kd.R_drew)); exact Kd.R_mono (Kd.R_far (p := ⟨gb90005, 4, none⟩) (Kd.R_types HO128.out BK90005.out (by decide)) (fun _ hk => hk.2) (.slice Ao209 y126.length co209)) (fun _ hk => trivial)⟩, ⟨bkZ⟩, ⟨bkZ⟩, ⟨bkZ⟩, ⟨bkZ⟩, ⟨zcb41⟩⟩
               · rw [if_neg c184] at H
                 have c184b0 : decide (x64_4 < (l0_4.length : Int)) = false := decide_eq_false c184
                 clear c184
                 by_cases c211 : x90006005_4 = true
                 · subst c211
                   rw [if_pos rfl] at H
                   simp only [Option.some.injEq, Prod.mk.injEq] at H
                   obtain ⟨rfl, rfl, rfl, rfl, rfl, rfl⟩ := H
                   have hnb212 := NB90005_90002.out
                   have hnc212 := NB90002_90005.out
                   have hnb213 := NB90005_90003.out
                   have hnc213 := NB90003_90005.out
                   have hnb214 := NB90005_90004.out
                   have hnc214 := NB90004_90005.out
                   obtain ⟨hcz215_0, hcz215_1, hcz215_2, hcz215_3, hcz215_4, hcz215_5, hfz215_0, hfz215_1, hfz215_2, hfz215_3, hfz215_4, hfz215_5⟩ := cellsZ6 BK90005.out
                   have hnb216 := NB90004_90002.out
                   have hnc216 := NB90002_90004.out
                   have hnb217 := NB90004_90003.out
                   have hnc217 := NB90003_90004.out
                   obtain ⟨hcz218_0, hcz218_1, hcz218_2, hcz218_3, hcz218_4, hcz218_5, hfz218_0, hfz218_1, hfz218_2, hfz218_3, hfz218_4, hfz218_5⟩ := cellsZ6 BK90004.out
                   obtain ⟨Ao219, co219, eo219⟩ := Kd.R_slice HO_90006004.out
                   subst eo219
                   go_wp2
                   refine bodyPost_ret (results_cell_row rfl _ _ gb90004 26 #[.int .i64 x90006000_128, .int .i64 0, .int .i64 x90006002_147, .int .i64 x90006003_163, .slice Ao219 x90006004_4.length co219, .bool true] (0, 0) _ rfl bkZ Try.underlying26 rfl (by kernel_rfl)) rfl ?_
                   exact ⟨_, z674d, by (with_reducible repeat (first | apply Kd.R_alloc | apply Kd.R_drewN | apply Kd.R_drew)); exact Kd.R_mono (Kd.R_far (p := ⟨gb90004, 5, none⟩) (Kd.R_far (p := ⟨gb90004, 4, none⟩) (Kd.R_far (p := ⟨gb90004, 3, none⟩) (Kd.R_far (p := ⟨gb90004, 2, none⟩) (Kd.R_far (p := ⟨gb90004, 1, none⟩) (Kd.R_far (p := ⟨gb90004, 0, none⟩) (Kd.R_far (p := ⟨gb90005, 1, none⟩) (Kd.R_types (Kd.R_types HO_90006004.out BK90005.out (by decide)) BK90004.out (by decide)) (fun _ hk => hk.1.2) (.int .i64 0)) (fun _ hk => hk.2) (.int .i64 x90006000_128)) (fun _ hk => hk.2) (.int .i64 0)) (fun _ hk => hk.2) (.int .i64 x90006002_147)) (fun _ hk => hk.2) (.int .i64 x90006003_163)) (fun _ hk => hk.2) (.slice Ao219 x90006004_4.length co219)) (fun _ hk => hk.2) (.bool true)) (fun _ hk => trivial), zcb41⟩
                 · replace c211 := Bool.eq_false_iff.mpr c211
                   subst c211
                   rw [if_neg (show ¬ (false = true) by decide)] at H
                   simp only [Option.some.injEq, Prod.mk.injEq] at H
                   obtain ⟨rfl, rfl, rfl, rfl, rfl, rfl⟩ := H
                   have hnb220 := NB90005_90002.out
                   have hnc220 := NB90002_90005.out
                   have hnb221 := NB90005_90003.out
                   have hnc221 := NB90003_90005.out
                   have hnb222 := NB90005_90004.out
                   have hnc222 := NB90004_90005.out
                   obtain ⟨hcz223_0, hcz223_1, hcz223_2, hcz223_3, hcz223_4, hcz223_5, hfz223_0, hfz223_1, hfz223_2, hfz223_3, hfz223_4, hfz223_5⟩ := cellsZ6 BK90005.out
                   have hnb224 := NB90004_90002.out
                   have hnc224 := NB90002_90004.out
                   have hnb225 := NB90004_90003.out
                   have hnc225 := NB90003_90004.out
                   obtain ⟨hcz226_0, hcz226_1, hcz226_2, hcz226_3, hcz226_4, hcz226_5, hfz226_0, hfz226_1, hfz226_2, hfz226_3, hfz226_4, hfz226_5⟩ := cellsZ6 BK90004.out
                   obtain ⟨Ao227, co227, eo227⟩ := Kd.R_slice HO_90006004.out
                   subst eo227
                   go_wp2
                   refine bodyPost_ret (results_cell_row rfl _ _ gb90004 26 #[.int .i64 x90006000_128, .int .i64 (wrap64 (a0_1 + a1_1)), .int .i64 x90006002_147, .int .i64 x90006003_163, .slice Ao227 x90006004_4.length co227, .bool false] (0, 0) _ rfl bkZ Try.underlying26 rfl (by kernel_rfl)) rfl ?_
                   exact ⟨_, z674d, by (with_reducible repeat (first | apply Kd.R_alloc | apply Kd.R_drewN | apply Kd.R_drew)); exact Kd.R_mono (Kd.R_far (p := ⟨gb90004, 5, none⟩) (Kd.R_far (p := ⟨gb90004, 4, none⟩) (Kd.R_far (p := ⟨gb90004, 3, none⟩) (Kd.R_far (p := ⟨gb90004, 2, none⟩) (Kd.R_far (p := ⟨gb90004, 1, none⟩) (Kd.R_far (p := ⟨gb90004, 0, none⟩) (Kd.R_types HO_90006004.out BK90004.out (by decide)) (fun _ hk => hk.2) (.int .i64 x90006000_128)) (fun _ hk => hk.2) (.int .i64 (wrap64 (a0_1 + a1_1)))) (fun _ hk => hk.2) (.int .i64 x90006002_147)) (fun _ hk => hk.2) (.int .i64 x90006003_163)) (fun _ hk => hk.2) (.slice Ao227 x90006004_4.length co227)) (fun _ hk => hk.2) (.bool false)) (fun _ hk => trivial), zcb41⟩

end Go.Proofs.Ytdkokfnnebdppaa.P
